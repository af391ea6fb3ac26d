/- What the proof needs, part 4: a sound evaluator over trees, the program's functions on it, and what they come to. -/
import Derived.Test.YtdofipeaomgbbaaGreatDoorMgc
set_option linter.unusedVariables false
set_option linter.unusedSimpArgs false
set_option maxRecDepth 100000
namespace Go.Proofs.YtdofipeaomgbbaaGreatDoor.Abs
open _root_.Option renaming bind_eq_some_iff → zaa, bind_some → zab, getD_some → zaC
open _root_.List renaming getElem?_eq_some_iff → zac, replicate → zad, getElem?_append_right → zae, getElem?_append_left → zaf, length_append → zag, nil_append → zah, append_assoc → zaj, append_nil → zan, length_singleton → zao, mem_append_right → zap, cons_append → zar, mem_append_left → zas, mem_cons_of_mem → zat, map_cons → zau, length_cons → zav, flatten_append → zax, length_nil → zay, take_length → za0, getElem?_set_ne → za1, mem_cons → za2, all_eq_true → za3, map_append → za5, length_take → za6, mem_cons_self → za8, drop_zero → zaA, replicate_append_replicate → zaB, flatten_cons → zaE, length_drop → zaF, nodup_cons → zaH, mem_append → zaJ, nodup_append → zaP, mem_range'_1 → zaQ, drop_drop → zaV, nodup_range' → zbb, drop_of_length_le → zbe, getElem?_set_self → zbf, any_cons → zbg, length_set → zbh, all_cons → zbj, range' → zbk, map_nil → zbs, take_of_length_le → zbv, nodup_nil → zb3, headD_cons → zbB, length_map → zbC, tail_cons → zbG, drop_take → zbH, take_take → zbI, take_zero → zbM
open _root_.Bool renaming false_eq_true → zal, eq_iff_iff → zbi, false_or → zbq
open _root_.Nat renaming le_refl → zak, zero_add → zaw, le_trans → zaz, mul_le_mul_right → za7, min_eq_left → zaK, add_mul → zaM, zero_le → zaN, sub_self → zaO, add_assoc → zaS, add_zero → zbd, one_mul → zbt, add_comm → zbK, succ_mul → zbN
open _root_.Int renaming natCast_zero → zaY
section
open Go
theorem Air {s : ByteArray} (h : s.size ≤ 1048576) : Ll s := zaz h (by decide)
theorem Z1 (n : Nat) (hn : 1048576 < n) (ty : Nat) (s : ByteArray) (hs : s.size ≤ 1048576) : Cs E0 (n + 5) ty 92 [.sc (.string s)] = some (.sc (.bool (En s))) := by
 rw [Bb, AhY, f92]
 try simp only [C8, C2, B3, Bm, Bs, Bh, Dz, Dy, Fo, A2, B6, Pr.gT, Pr.gF, Pr.hT, Pr.hF, Pr.kT, Pr.kF, Ce, B7, Dj, Ca, Et, Dk, Cx, Bv, Bx, Ed, C6, D2, D5]
 refine D0 rfl (Bq (Dl _ _) D1) (Acg (n + 0) (by omega) _ s) ?_
 apply A8 ((F7 s) && (!(s.toList == (⟨#[]⟩ : ByteArray).toList)))
 intro b1 q1
 refine Af ((F7 s)) (fun h1 => ?_) fun h1 => ?_
 exact An h1 (An h1 (A4 (v := sb (!(s.toList == (⟨#[]⟩ : ByteArray).toList))) (fun k => rfl) (Cc h1 (Hd q1 h1) rfl)))
 exact Ao h1 (Ao h1 (Cb h1 (Hb q1 h1) rfl))
 intro b1 q1
 apply A8 (b1 && (!(Pg s 43)))
 intro b2 q2
 refine Af (b1) (fun h2 => ?_) fun h2 => ?_
 exact An h2 (An h2 (D0 rfl (Bq (Dl _ _) (Bq (Dl _ _) D1)) (Aj6 (n + 3) (by omega) _ s hs) (An h2 (Hq (Cc h2 (Hd q2 h2) rfl)))))
 exact Ao h2 (Ao h2 (Ao h2 (Cb h2 (Hb q2 h2) rfl)))
 intro b2 q2
 apply A8 (b2 && (!(Pg s 35)))
 intro b3 q3
 refine Af (b2) (fun h3 => ?_) fun h3 => ?_
 exact An h3 (An h3 (D0 rfl (Bq (Dl _ _) (Bq (Dl _ _) D1)) (Aj5 (n + 3) (by omega) _ s hs) (An h3 (Hq (Cc h3 (Hd q3 h3) rfl)))))
 exact Ao h3 (Ao h3 (Ao h3 (Cb h3 (Hb q3 h3) rfl)))
 intro b3 q3
 apply A8 (b3 && (decide (((Ek s).length : Int) ≤ 6)))
 intro b4 q4
 refine Af (b3) (fun h4 => ?_) fun h4 => ?_
 exact An h4 (An h4 (Aa9 rfl (Bq (Dl _ _) D1) (Xw (n + 3) (by omega) s hs) fun N5 X5 z5 => An h4 (AeP (An h4 (A4 (v := sb (decide (((Ek s).length : Int) ≤ 6))) (fun k => rfl) (Cc h4 (Hd q4 h4) rfl))))))
 exact Ao h4 (Ao h4 (Ao h4 (Ao h4 (Cb h4 (Hb q4 h4) rfl))))
 intro b4 q4
 exact AeO (by subst_vars; unfold En; first | rfl | (unfold vPH; cases F7 s <;> cases Pg s 43 <;> cases Pg s 35 <;> simp))
theorem N8 (n : Nat) (hn : 1048576 < n) (ty : Nat) (s : ByteArray) (hs : s.size ≤ 1048576) : Cs E0 (n + 5) ty 57 [.sc (.string s)] = some (.sc (.bool (En s))) := by
 rw [Bb, AhE, f57]
 try simp only [C8, C2, B3, Bm, Bs, Bh, Dz, Dy, Fo, A2, B6, Pr.gT, Pr.gF, Pr.hT, Pr.hF, Pr.kT, Pr.kF, Ce, B7, Dj, Ca, Et, Dk, Cx, Bv, Bx, Ed, C6, D2, D5]
 refine Ae2 rfl (Bq (Dl _ _) D1) (AbQ _ s (Air hs)) ?_
 apply A8 ((F7 s) && (!(s.toList == (⟨#[]⟩ : ByteArray).toList)))
 intro b1 q1
 refine Af ((F7 s)) (fun h1 => ?_) fun h1 => ?_
 exact An h1 (An h1 (A4 (v := sb (!(s.toList == (⟨#[]⟩ : ByteArray).toList))) (fun k => rfl) (Cc h1 (Hd q1 h1) rfl)))
 exact Ao h1 (Ao h1 (Cb h1 (Hb q1 h1) rfl))
 intro b1 q1
 apply A8 (b1 && (!(vPH s)))
 intro b2 q2
 refine Af (b1) (fun h2 => ?_) fun h2 => ?_
 exact An h2 (An h2 (Ae2 rfl (Bq (Dl _ _) (Bq (Dl _ _) D1)) (Abc _ s hs) (An h2 (Hq (Cc h2 (Hd q2 h2) rfl)))))
 exact Ao h2 (Ao h2 (Ao h2 (Cb h2 (Hb q2 h2) rfl)))
 intro b2 q2
 apply A8 (b2 && (decide (((Ek s).length : Int) ≤ 6)))
 intro b3 q3
 refine Af (b2) (fun h3 => ?_) fun h3 => ?_
 exact An h3 (An h3 (Aa9 rfl (Bq (Dl _ _) D1) (Wx (n + 3) s hs) fun N4 X4 z4 => An h3 (AeP (An h3 (A4 (v := sb (decide (((Ek s).length : Int) ≤ 6))) (fun k => rfl) (Cc h3 (Hd q3 h3) rfl))))))
 exact Ao h3 (Ao h3 (Ao h3 (Ao h3 (Cb h3 (Hb q3 h3) rfl))))
 intro b3 q3
 exact AeO (by subst_vars; unfold En; first | rfl | (unfold vPH; cases F7 s <;> cases Pg s 43 <;> cases Pg s 35 <;> simp))
def C3 (m : Cd) : Bool := En m.fTopic && decide ((m.fBody.size : Int) ≤ 40) && Ge m.fQos 0 2
theorem Aij (n : Nat) (ty : Nat) (x : Int) : Cs E0 (n + 2) ty 56 [.sc (.int .i64 x)] = some (.sc (.bool (Ge x 0 2))) := by
 rw [Bb, Adx, f56]
 try simp only [C8, C2, B3, Bm, Bs, Bh, Dz, Dy, Fo, A2, B6, Pr.gT, Pr.gF, Pr.hT, Pr.hF, Pr.kT, Pr.kF, Ce, B7, Dj, Ca, Et, Dk, Cx, Bv, Bx, Ed, C6, D2, D5]
 exact D0 rfl (Bq (Dl _ _) (Bq (Dl _ _) (Bq (Dl _ _) D1))) (Jl (n + 0) _ x 0 2) (E8 (by first | (simp_all [Ge, En, C3]; done) | (rw [zbi]; simp [Ge, En, C3] at *; omega)))
theorem Tg (n : Nat) (hn : 1048576 < n) (ty : Nat) (m : Cd) (hs : m.fTopic.size ≤ 1048576) : Cs E0 (n + 6) ty 51 [.agg (Aj m)] = some (.sc (.bool (C3 m))) := by
 rw [Bb, AhA, f51]
 try simp only [C8, C2, B3, Bm, Bs, Bh, Dz, Dy, Fo, A2, B6, Pr.gT, Pr.gF, Pr.hT, Pr.hF, Pr.kT, Pr.kF, Ce, B7, Dj, Ca, Et, Dk, Cx, Bv, Bx, Ed, C6, D2, D5]
 refine Lk (Ff _) fun iB1 eB1 B1 => Ah (Bl (c := ss m.fTopic) B1 (A9 rfl) rfl (D0 rfl (Bq (Dl _ _) D1) (Z1 (n + 0) (by omega) _ m.fTopic (by assumption)) ?_))
 apply A8 ((En m.fTopic) && (decide ((m.fBody.size : Int) ≤ 40)))
 intro b2 q2
 refine Af ((En m.fTopic)) (fun h2 => ?_) fun h2 => ?_
 exact An h2 (Ah (An h2 (Bl (c := A3 m.fBody) B1 (A9 rfl) rfl (An h2 (Dq (An h2 (A4 (v := sb (decide ((m.fBody.size : Int) ≤ 40))) (fun k => rfl) (Cc h2 (Hd q2 h2) rfl))))))))
 exact Ao h2 (Ao h2 (Ao h2 (Ao h2 (Cb h2 (Hb q2 h2) rfl))))
 intro b2 q2
 apply A8 (b2 && (Ge m.fQos 0 2))
 intro b3 q3
 refine Af (b2) (fun h3 => ?_) fun h3 => ?_
 exact An h3 (Ah (An h3 (Bl (c := si m.fQos) B1 (A9 rfl) rfl (An h3 (D0 rfl (Bq (Dl _ _) (Bq (Dl _ _) (Bq (Dl _ _) D1))) (Oz (n + 4) _ m.fQos 0 2) (Cc h3 (Hd q3 h3) rfl))))))
 exact Ao h3 (Ao h3 (Ao h3 (Cb h3 (Hb q3 h3) rfl)))
 intro b3 q3
 exact E8 (by subst_vars; first | rfl | (simp only [C3]; done) | (simp only [C3]; ac_rfl))
theorem Sf (n : Nat) (hn : 1048576 < n) (ty : Nat) (m : Cd) (hs : m.fTopic.size ≤ 1048576) : Cs E0 (n + 6) ty 46 [.agg (Aj m)] = some (.sc (.bool (C3 m))) := by
 rw [Bb, Ah5, f46]
 try simp only [C8, C2, B3, Bm, Bs, Bh, Dz, Dy, Fo, A2, B6, Pr.gT, Pr.gF, Pr.hT, Pr.hF, Pr.kT, Pr.kF, Ce, B7, Dj, Ca, Et, Dk, Cx, Bv, Bx, Ed, C6, D2, D5]
 refine Lk (Ff _) fun iB1 eB1 B1 => Ah (Bl (c := ss m.fTopic) B1 (A9 rfl) rfl (D0 rfl (Bq (Dl _ _) D1) (N8 (n + 0) (by omega) _ m.fTopic (by assumption)) ?_))
 apply A8 ((En m.fTopic) && (decide ((m.fBody.size : Int) ≤ 40)))
 intro b2 q2
 refine Af ((En m.fTopic)) (fun h2 => ?_) fun h2 => ?_
 exact An h2 (Ah (An h2 (Bl (c := A3 m.fBody) B1 (A9 rfl) rfl (An h2 (Dq (An h2 (A4 (v := sb (decide ((m.fBody.size : Int) ≤ 40))) (fun k => rfl) (Cc h2 (Hd q2 h2) rfl))))))))
 exact Ao h2 (Ao h2 (Ao h2 (Ao h2 (Cb h2 (Hb q2 h2) rfl))))
 intro b2 q2
 apply A8 (b2 && (Ge m.fQos 0 2))
 intro b3 q3
 refine Af (b2) (fun h3 => ?_) fun h3 => ?_
 exact An h3 (Ah (An h3 (Bl (c := si m.fQos) B1 (A9 rfl) rfl (An h3 (D0 rfl (Bq (Dl _ _) D1) (Aij (n + 3) _ m.fQos) (Cc h3 (Hd q3 h3) rfl))))))
 exact Ao h3 (Ao h3 (Ao h3 (Cb h3 (Hb q3 h3) rfl)))
 intro b3 q3
 exact E8 (by subst_vars; first | rfl | (simp only [C3]; done) | (simp only [C3]; ac_rfl))
def D9 (l : List Cd) : Bool := l.all C3 && decide ((l.length : Int) ≤ 6)
theorem Yf {α : Type} (p : α → Bool) (e : Bool) (go : List α → List α → Bool) (h0 : ∀ pre, go pre [] = e) (h1 : ∀ pre x r, go pre (x :: r) = (p x && go (pre ++ [x]) r)) : ∀ (r pre : List α), go pre r = (r.all p && e)
 | [], pre => by rw [h0]; simp
 | x :: r, pre => by rw [h1, Yf p e go h0 h1 r, zbj, Bool.and_assoc]
def Vn (l : List Cd) : List Cd → List Cd → Bool
 | pre, [] => decide ((l.length : Int) ≤ 6)
 | pre, x :: r => C3 x && Vn l (pre ++ [x]) r
theorem Ti (n : Nat) (hn : 1048576 < n) (ty : Nat) (l : List Cd) (hlen : l.length ≤ 1048576) (hsl : ∀ x ∈ l, x.fTopic.size ≤ 1048576) : ∀ (r pre : List Cd) (m : Nat) (H : Ab), l = pre ++ r → r.length < m → R2 (PR (n + 6) AV) (n + 6) (fun x H => Ba Ar E0.tp ty H x) m (Ai Aj l) (.sc (.int .i64 pre.length)) H = some (.sc (.bool (Vn l pre r)))
 | [], pre, m + 1, H, hl, hm => by
  have hlt : decide ((pre.length : Int) < (l.length : Int)) = false := by
   rw [hl]
   simp
  show (PR (n + 6) AV).len _ _ = _
  simp only [C8, C2, B3, Bm, Bs, Bh, Dz, Dy, Fo, A2, B6, Pr.gT, Pr.gF, Pr.hT, Pr.hF, Pr.kT, Pr.kF, Ce, B7, Dj, Ca, Et, Dk, Cx, Bv, Bx, Ed, C6, D2, D5]
  exact Dq (A4 (v := .sc (.bool (decide ((pre.length : Int) < (l.length : Int))))) (fun k => rfl) (Fy hlt (Dq (A4 (v := .sc (.bool (decide ((l.length : Int) ≤ 6)))) (fun k => rfl) (E8 (by first | (subst_vars; simp only [Vn]; simp_all; done) | (subst_vars; unfold Vn; simp_all)))))))
 | x :: r, pre, m + 1, H, hl, hm => by
  have hpl : pre.length < l.length := by rw [hl]; simp
  have hlt : decide ((pre.length : Int) < (l.length : Int)) = true := by simpa using hpl
  have hmem : x ∈ l := by rw [hl]; simp
  have hix : IntKind.i64.wrap ((pre.length : Int) + 1) = (((pre ++ [x]).length : Nat) : Int) := by
   rw [Gf _ (by omega) (by omega), zag, zao]
   rfl
  try have hs : x.fTopic.size ≤ 1048576 := hsl x (by assumption)
  show (PR (n + 6) AV).len _ _ = _
  simp only [C8, C2, B3, Bm, Bs, Bh, Dz, Dy, Fo, A2, B6, Pr.gT, Pr.gF, Pr.hT, Pr.hF, Pr.kT, Pr.kF, Ce, B7, Dj, Ca, Et, Dk, Cx, Bv, Bx, Ed, C6, D2, D5]
  refine Dq (A4 (v := sb (decide ((pre.length : Int) < (l.length : Int)))) (fun k => rfl) (Fn hlt (Kr Ec (by decide) hl (Kg (ds := Aj x) (A9 rfl) rfl (D0 rfl (Bq (Gi _ (Ff _)) D1) (Tg (n + 0) (by omega) _ x (by assumption)) (Hq (Af ((C3 x)) (fun h1 => ?_) fun h1 => ?_)))))))
  ·refine Fy (nF h1) (A4 (v := si (IntKind.i64.wrap ((pre.length : Int) + 1))) (fun k => rfl) ?_)
   rw [hix]
   refine (Ti n hn ty l hlen hsl r (pre ++ [x]) m _  (by rw [hl]; simp) (by simpa using hm)).trans (congrArg (fun b => some (AV.sc (Value.bool b))) ?_)
   first | (subst_vars; simp only [Vn]; simp_all; done) | (subst_vars; unfold Vn; simp_all)
  ·exact Fn (nT h1) (E8 (by first | (subst_vars; simp only [Vn]; simp_all; done) | (subst_vars; unfold Vn; simp_all)))
def Vm : List Cd → List Cd → Bool
 | pre, [] => true
 | pre, x :: r => C3 x && Vm (pre ++ [x]) r
theorem Sg (n : Nat) (hn : 1048576 < n) (ty : Nat) (l : List Cd) (hlen : l.length ≤ 1048576) (hsl : ∀ x ∈ l, x.fTopic.size ≤ 1048576) : ∀ (r pre : List Cd) (m : Nat) (H : Ab), l = pre ++ r → r.length < m → R7 (PR (n + 6) AV) (n + 6) (fun x H => Ba Ar E0.tp ty H x) m (Ai Aj l) (.sc (.int .i64 (l.length : Int))) (.sc (.int .i64 pre.length)) H = some (.sc (.bool (Vm pre r)))
 | [], pre, m + 1, H, hl, hm => by
  have hlt : decide ((pre.length : Int) < (l.length : Int)) = false := by
   rw [hl]
   simp
  show (PR (n + 6) AV).bin _ _ _ _ = _
  simp only [C8, C2, B3, Bm, Bs, Bh, Dz, Dy, Fo, A2, B6, Pr.gT, Pr.gF, Pr.hT, Pr.hF, Pr.kT, Pr.kF, Ce, B7, Dj, Ca, Et, Dk, Cx, Bv, Bx, Ed, C6, D2, D5]
  exact A4 (v := .sc (.bool (decide ((pre.length : Int) < (l.length : Int))))) (fun k => rfl) (Fy hlt (E8 (by first | (subst_vars; simp only [Vm]; simp_all; done) | (subst_vars; unfold Vm; simp_all))))
 | x :: r, pre, m + 1, H, hl, hm => by
  have hpl : pre.length < l.length := by rw [hl]; simp
  have hlt : decide ((pre.length : Int) < (l.length : Int)) = true := by simpa using hpl
  have hmem : x ∈ l := by rw [hl]; simp
  have hix : IntKind.i64.wrap ((pre.length : Int) + 1) = (((pre ++ [x]).length : Nat) : Int) := by
   rw [Gf _ (by omega) (by omega), zag, zao]
   rfl
  try have hs : x.fTopic.size ≤ 1048576 := hsl x (by assumption)
  show (PR (n + 6) AV).bin _ _ _ _ = _
  simp only [C8, C2, B3, Bm, Bs, Bh, Dz, Dy, Fo, A2, B6, Pr.gT, Pr.gF, Pr.hT, Pr.hF, Pr.kT, Pr.kF, Ce, B7, Dj, Ca, Et, Dk, Cx, Bv, Bx, Ed, C6, D2, D5]
  refine A4 (v := sb (decide ((pre.length : Int) < (l.length : Int)))) (fun k => rfl) (Fn hlt (Kr Ec (by decide) hl (Kg (ds := Aj x) (A9 rfl) rfl (Vs rfl (Ec _) (On (Ff _)) fun iB1 B1 => Ks (ds := Aj x) B1 (A9 rfl) rfl (D0 rfl (Bq (Gi _ (Ff _)) D1) (Sf (n + 0) (by omega) _ x (by assumption)) (Hq (Af ((C3 x)) (fun h2 => ?_) fun h2 => ?_)))))))
  ·refine Fy (nF h2) (A4 (v := si (IntKind.i64.wrap ((pre.length : Int) + 1))) (fun k => rfl) ?_)
   rw [hix]
   refine (Sg n hn ty l hlen hsl r (pre ++ [x]) m _  (by rw [hl]; simp) (by simpa using hm)).trans (congrArg (fun b => some (AV.sc (Value.bool b))) ?_)
   first | (subst_vars; simp only [Vm]; simp_all; done) | (subst_vars; unfold Vm; simp_all)
  ·exact Fn (nT h2) (E8 (by first | (subst_vars; simp only [Vm]; simp_all; done) | (subst_vars; unfold Vm; simp_all)))
theorem Tj (n : Nat) (hn : 1048576 < n) (ty : Nat) (l : List Cd) (hlen : l.length ≤ 1048576) (hsl : ∀ x ∈ l, x.fTopic.size ≤ 1048576) : Cs E0 (n + 7) ty 53 [Ai Aj l] = some (.sc (.bool (D9 l))) := by
 rw [Bb, AhC, f53]
 have key := Ti n hn ty l hlen hsl l [] (n + 6) [] rfl (by omega)
 rw [Yf C3 (decide ((l.length : Int) ≤ 6)) (Vn l) (fun _ => rfl) (fun _ _ _ => rfl) l []] at key
 exact key
theorem AbO (n : Nat) (hn : 1048576 < n) (ty : Nat) (l : List Cd) (hlen : l.length ≤ 1048576) (hsl : ∀ x ∈ l, x.fTopic.size ≤ 1048576) : Cs E0 (n + 7) ty 91 [Ai Aj l] = some (.sc (.bool (l.all C3))) := by
 rw [Bb, AhX, f91]
 simp only [B7]
 refine Dq ?_
 have key := Sg n hn ty l hlen hsl l [] (n + 6) [] rfl (by omega)
 rw [Yf C3 true Vm (fun _ => rfl) (fun _ _ _ => rfl) l [], Bool.and_true] at key
 exact key
theorem Sh (n : Nat) (hn : 1048576 < n) (ty : Nat) (l : List Cd) (hlen : l.length ≤ 1048576) (hsl : ∀ x ∈ l, x.fTopic.size ≤ 1048576) : Cs E0 (n + 8) ty 49 [Ai Aj l] = some (.sc (.bool (D9 l))) := by
 rw [Bb, Ah8, f49]
 try simp only [C8, C2, B3, Bm, Bs, Bh, Dz, Dy, Fo, A2, B6, Pr.gT, Pr.gF, Pr.hT, Pr.hF, Pr.kT, Pr.kF, Ce, B7, Dj, Ca, Et, Dk, Cx, Bv, Bx, Ed, C6, D2, D5]
 refine Dq (A4 (v := sb (decide ((l.length : Int) ≤ 6))) (fun k => rfl) ?_)
 apply A8 ((decide ((l.length : Int) ≤ 6)) && (l.all C3))
 intro b1 q1
 refine Af ((decide ((l.length : Int) ≤ 6))) (fun h1 => ?_) fun h1 => ?_
 exact An h1 (An h1 (D0 rfl (Bq (Ez _ _ _) D1) (AbO (n + 0) (by omega) _ l (by assumption) (by assumption)) (Cc h1 (Hd q1 h1) rfl)))
 exact Ao h1 (Ao h1 (Cb h1 (Hb q1 h1) rfl))
 intro b1 q1
 exact E8 (by subst_vars; unfold D9; rw [Bool.and_comm])
theorem P6 (l : List Cd) (b0 : Fm Bo l ≤ 1048576) : l.length ≤ 1048576 ∧ ∀ x ∈ l, x.fTopic.size ≤ 1048576 := by
 have h1 := Mc Bo l
 refine ⟨by omega, fun x hx => ?_⟩
 have h2 := Nj (wt := Bo) hx
 have h3 : Bo x = x.fTopic.size + (x.fBody.size + 0) := rfl
 omega
def X7 (x : Ad) : Bool := if x.fM.fQos == 1 then x.fSt == 1 else (x.fM.fQos == 2 && (x.fSt == 2 || x.fSt == 3))
theorem Aik (n : Nat) (ty : Nat) (x : Ad) : Cs E0 (n + 1) ty 52 [.agg (Aq x)] = some (.sc (.bool (X7 x))) := by
 rw [Bb, AhB, f52]
 try simp only [C8, C2, B3, Bm, Bs, Bh, Dz, Dy, Fo, A2, B6, Pr.gT, Pr.gF, Pr.hT, Pr.hF, Pr.kT, Pr.kF, Ce, B7, Dj, Ca, Et, Dk, Cx, Bv, Bx, Ed, C6, D2, D5]
 refine Lk (Du _) fun iB1 eB1 B1 => Ah (Ah (Bl (c := si x.fM.fQos) B1 (A9 rfl) rfl (A4 (v := sb (x.fM.fQos == 1)) (fun k => rfl) (Af ((x.fM.fQos == 1)) (fun h2 => ?_) fun h2 => ?_))))
 exact Fn h2 (Ah (Bl (c := .sc (.int .i64 x.fSt)) B1 (A9 rfl) rfl (A4 (v := .sc (.bool (x.fSt == 1))) (fun k => rfl) (E8 (by subst_vars; unfold X7; simp_all)))))
 refine Fy h2 (Ah (Ah (Bl (c := si x.fM.fQos) B1 (A9 rfl) rfl (A4 (v := sb (x.fM.fQos == 2)) (fun k => rfl) ?_))))
 apply A8 ((x.fM.fQos == 2) && ((x.fSt == 2) || (x.fSt == 3)))
 intro b3 q3
 refine Af ((x.fM.fQos == 2)) (fun h3 => ?_) fun h3 => ?_
 refine An h3 (Ah (An h3 (Bl (c := si x.fSt) B1 (A9 rfl) rfl (An h3 (A4 (v := sb (x.fSt == 2)) (fun k => rfl) (An h3 ?_))))))
 apply A8 ((x.fSt == 2) || (x.fSt == 3))
 intro b4 q4
 refine Af ((x.fSt == 2)) (fun h4 => ?_) fun h4 => ?_
 exact Da h4 (Da h4 (Da h4 (An h3 (Cc h4 (mOT q4 h4) rfl))))
 exact C4 h4 (Ah (C4 h4 (Bl (c := si x.fSt) B1 (A9 rfl) rfl (C4 h4 (A4 (v := sb (x.fSt == 3)) (fun k => rfl) (An h3 (Cb h4 (mOF q4 h4) rfl)))))))
 intro b4 q4
 exact Cc h3 (by subst q4; exact Hd q3 h3) rfl
 exact Ao h3 (Ao h3 (Ao h3 (Ao h3 (w_u (w_u (w_u (Ao h3 (Cb h3 (Hb q3 h3) rfl))))))))
 intro b3 q3
 exact E8 (by subst_vars; unfold X7; simp_all)
theorem Aj9 (n : Nat) (ty : Nat) (x : Int) : Cs E0 (n + 2) ty 44 [.sc (.int .i64 x)] = some (.sc (.bool (Ge x 1 65535))) := by
 rw [Bb, Adk, f44]
 try simp only [C8, C2, B3, Bm, Bs, Bh, Dz, Dy, Fo, A2, B6, Pr.gT, Pr.gF, Pr.hT, Pr.hF, Pr.kT, Pr.kF, Ce, B7, Dj, Ca, Et, Dk, Cx, Bv, Bx, Ed, C6, D2, D5]
 exact D0 rfl (Bq (Dl _ _) (Bq (Dl _ _) (Bq (Dl _ _) D1))) (Jl (n + 0) _ x 1 65535) (E8 (by first | (simp_all [Ge, En, C3, D9, X7]; done) | (rw [zbi]; simp [Ge, En, C3, D9, X7] at *; omega)))
theorem Aga (n : Nat) (ty : Nat) (x : Int) : Cs E0 (n + 2) ty 48 [.sc (.int .i64 x)] = some (.sc (.bool (Ge x 0 65535))) := by
 rw [Bb, Ah7, f48]
 try simp only [C8, C2, B3, Bm, Bs, Bh, Dz, Dy, Fo, A2, B6, Pr.gT, Pr.gF, Pr.hT, Pr.hF, Pr.kT, Pr.kF, Ce, B7, Dj, Ca, Et, Dk, Cx, Bv, Bx, Ed, C6, D2, D5]
 exact D0 rfl (Bq (Dl _ _) (Bq (Dl _ _) (Bq (Dl _ _) D1))) (Jl (n + 0) _ x 0 65535) (E8 (by first | (simp_all [Ge, En, C3, D9, X7]; done) | (rw [zbi]; simp [Ge, En, C3, D9, X7] at *; omega)))
def Ir (pre : List Ad) (x : Ad) : Bool := pre.any fun y => y.fId == x.fId
def Pw : List Ad → List Ad → Bool
 | pre, [] => true
 | pre, x :: r => (Ge x.fId 1 65535 && C3 x.fM && X7 x && !(Ir pre x)) && Pw (pre ++ [x]) r
def C9 (o : A7) : Bool := Pw [] o.fFl && (Ge o.fLast 0 65535 && decide ((o.fFl.length : Int) ≤ 3) && D9 o.fQ)
theorem R9 (o : A7) (b0 : Fj o ≤ 1048576) : (o.fFl.length ≤ 1048576 ∧ ∀ x ∈ o.fFl, x.fM.fTopic.size ≤ 1048576) ∧ (o.fQ.length ≤ 1048576 ∧ ∀ x ∈ o.fQ, x.fTopic.size ≤ 1048576) := by
 have e : Fj o = Fm As o.fFl + (Fm Bo o.fQ + 0) := rfl
 refine ⟨?_, P6 _ (by omega)⟩
 have h1 := Mc As o.fFl
 refine ⟨by omega, fun x hx => ?_⟩
 have h2 := Nj (wt := As) hx
 have h3 : As x = x.fM.fTopic.size + (x.fM.fBody.size + 0) + 0 := rfl
 omega
theorem U2 (n : Nat) (ty : Nat) (o : A7) (hlen : o.fFl.length ≤ 1048576) (x : Ad) (g0 : AV → AV → Ab → Option AV) (kk : AV → Ab → Option AV) (i1 : Nat) (H : Ab) (B : H[i1]? = some ⟨Bf o, true, true⟩) (pre r : List Ad) (hl : o.fFl = pre ++ x :: r) : ∀ (s p2 : List Ad) (m : Nat), pre = p2 ++ s → s.length < m →
  Rw (PR n AV) n g0 kk m (.ptr i1 0) (si pre.length) (si p2.length) H = if Ir s x then kk bF H else g0 (.ptr i1 0) (si (IntKind.i64.wrap ((pre.length : Int) + 1))) H
 | [], p2, m + 1, he, hm => by
  rw [zan] at he
  subst he
  show (PR n AV).bin _ _ _ _ = _
  simp only [Bh, A2, B3, Bm, Ca]
  rw [Ep, Ea, if_neg (by simp)]
  rfl
 | y :: s, p2, m + 1, he, hm => by
  have hlt : p2.length < pre.length := by rw [he]; simp
  have hpl : pre.length < o.fFl.length := by rw [hl]; simp
  show (PR n AV).bin _ _ _ _ = _
  simp only [Bh, A2, B3, Bm, Ca]
  rw [Ep, Ea, if_pos (by simpa using hlt)]
  refine Ah (Bl (c := Ai Aq o.fFl) B (A9 rfl) rfl (Kr (pre := p2) (x := y) (t := s ++ x :: r) A5 (by decide) (by rw [hl, he]; simp) (H9 (Mb (c := .sc (.int .i64 y.fId)) rfl (Ah (Bl (c := Ai Aq o.fFl) B (A9 rfl) rfl (Kr (pre := pre) (x := x) (t := r) A5 (by decide) hl (H9 (Mb (c := .sc (.int .i64 x.fId)) rfl (A4 (v := .sc (.bool (y.fId == x.fId))) (fun k => rfl) ?_))))))))))
  have ih := U2 n ty o hlen x g0 kk i1 H B pre r hl s (p2 ++ [y]) m (by rw [he]; simp) (by simpa using hm)
  rw [zag, zao] at ih
  have hany : Ir (y :: s) x = (y.fId == x.fId || Ir s x) := rfl
  rw [hany]
  cases hid : (y.fId == x.fId)
  refine Fy rfl ?_
  rw [Fl _ _ (by omega), ih]
  rfl
  exact Fn rfl rfl
theorem Aa6 (p : Ad → Bool) : ∀ (pre r : List Ad) (x : Ad) (i : Nat), p x = true → C5 p (pre ++ x :: r) i = if pre.any p then C5 p pre i else ((i + pre.length : Nat) : Int)
 | [], r, x, i, h => by simp [C5, h]
 | y :: pre, r, x, i, h => by
  rw [zar, C5, Aa6 p pre r x (i + 1) h, C5, zbg]
  cases hy : p y
  simp only [zal, if_false, zbq, zav]
  rw [show i + 1 + pre.length = i + (pre.length + 1) by omega]
  simp
theorem Aen (p : Ad → Bool) : ∀ (pre : List Ad) (i : Nat), pre.any p = true → C5 p pre i < ((i + pre.length : Nat) : Int)
 | [], i, h => by simp at h
 | y :: pre, i, h => by
  rw [C5]
  cases hy : p y
  rw [zbg, hy, zbq] at h
  have := Aen p pre (i + 1) h
  simp only [zal, if_false, zav]
  omega
  simp only [if_true, zav]
  omega
theorem Aeo (o : A7) (pre r : List Ad) (x : Ad) (hl : o.fFl = pre ++ x :: r) : (C5 (fun y : Ad => y.fId == x.fId) o.fFl 0 != (pre.length : Int)) = Ir pre x := by
 rw [hl, Aa6 _ pre r x 0 (by simp)]
 unfold Ir
 cases h : pre.any fun y => y.fId == x.fId
 simp
 have := Aen _ pre 0 h
 simp only [if_true]
 rw [bne_iff_ne.2]
 simp at this
 omega
theorem AbM (n : Nat) (ty : Nat) (x : Ad) (z : Int) : Cs E0 (n + 1) ty 90 [.agg (Aq x), .rp [.sc (.int .i64 z)]] = some (.sc (.bool (x.fId == z))) := by
 rw [Bb, AhW, f90]
 simp only [C8, B3, Bm, Bh]
 refine Lk (Du _) fun i e hi => Ah (Bl (c := si x.fId) hi (A9 rfl) rfl (Mb (c := si z) rfl ?_))
 rw [Ac8]
 rfl
theorem Vk (n : Nat) (hn : 1048576 < n) (ty : Nat) (l : List Ad) (z : Int) (hl : l.length ≤ 1048576) : Cs E0 (n + 2) ty 89 [Ai Aq l, .fn 90 [] [.rp [.sc (.int .i64 z)]]] = some (.sc (.int .i64 (C5 (fun y : Ad => y.fId == z) l 0))) := by
 rw [Bb, AhV, f89]
 simp only [B7]
 rw [Jb]
 have key := Si (n := n + 1) (tb := 4) (g := 90) (caps := [.rp [si z]]) Aq (fun y : Ad => y.fId == z) (fun x H => Ba Ar E0.tp ty H x) A5 (by decide) Du rfl (fun H => rfl) (fun m a b c i H => R6 (PR (n + 1) AV) (n + 1) (fun x H => Ba Ar E0.tp ty H x) m a b c i H) (fun m a b c i H => rfl) l (fun x _ => AbM n _ x z) hl [] l [] (n + 1) rfl (by omega)
 simp only [zay, zaY] at key
 rw [key]
 rfl
theorem Uc (n : Nat) (hn : 1048576 < n) (ty : Nat) (l : List Ad) (z : Int) (hl : l.length ≤ 1048576) : Cs E0 (n + 3) ty 45 [Ai Aq l, .sc (.int .i64 z)] = some (.sc (.int .i64 (C5 (fun y : Ad => y.fId == z) l 0))) := by
 rw [Bb, Ah4, f45]
 simp only [C8]
 refine Ai3 rfl fun i2 e2 hi2 => D0 rfl (Bq (Ez _ _ _) (Bq (AgX hi2 rfl) D1)) (Vk n hn _ l z hl) ?_
 rfl
theorem Agz (x : Ad) (hv : C3 x.fM = true) : X7 x = !((x.fM.fQos == 0) || (!((x.fM.fQos == 1) == (x.fSt == 1)) || !(Ge x.fSt 1 3))) := by
 have hq : 0 ≤ x.fM.fQos ∧ x.fM.fQos ≤ 2 := by
  unfold C3 Ge at hv
  simp at hv
  exact hv.2
 unfold X7 Ge
 obtain h | h | h : x.fM.fQos = 0 ∨ x.fM.fQos = 1 ∨ x.fM.fQos = 2 := by omega
 simp [h]
 rw [h, zbi]
 simp
 intro h1
 omega
 rw [h, zbi]
 simp
 omega
def Ot (o : A7) : List Ad → List Ad → Bool
 | pre, [] => Ge o.fLast 0 65535 && decide ((o.fFl.length : Int) ≤ 3) && D9 o.fQ
 | pre, x :: r => (Ge x.fId 1 65535 && C3 x.fM && X7 x && !(Ir pre x)) && Ot o (pre ++ [x]) r
theorem Qw (n : Nat) (hn : 1048576 < n) (ty : Nat) (o : A7) (hlen : o.fFl.length ≤ 1048576) (hsl : ∀ x ∈ o.fFl, x.fM.fTopic.size ≤ 1048576) (hqn : o.fQ.length ≤ 1048576) (hqs : ∀ x ∈ o.fQ, x.fTopic.size ≤ 1048576) (i1 : Nat) : ∀ (r pre : List Ad) (m : Nat) (H : Ab) (B : H[i1]? = some ⟨Bf o, true, true⟩), o.fFl = pre ++ r → r.length < m → N1 (PR (n + 8) AV) (n + 8) (fun x H => Ba Ar E0.tp ty H x) m (.ptr i1 0) (.sc (.int .i64 pre.length)) H = some (.sc (.bool (Ot o pre r)))
 | [], pre, m + 1, H, B, hl, hm => by
  have hlt : decide ((pre.length : Int) < (o.fFl.length : Int)) = false := by
   rw [hl]
   simp
  show (PR (n + 8) AV).fadr _ _ _ = _
  simp only [C8, C2, B3, Bm, Bs, Bh, Dz, Dy, Fo, A2, B6, Pr.gT, Pr.gF, Pr.hT, Pr.hF, Pr.kT, Pr.kF, Ce, B7, Dj, Ca, Et, Dk, Cx, Bv, Bx, Ed, C6, D2, D5]
  refine Ah (Bl (c := Ai Aq o.fFl) B (A9 rfl) rfl (Dq (A4 (v := sb (decide ((pre.length : Int) < (o.fFl.length : Int)))) (fun k => rfl) (Fy hlt (Ah (Bl (c := si o.fLast) B (A9 rfl) rfl (D0 rfl (Bq (Dl _ _) (Bq (Dl _ _) (Bq (Dl _ _) D1))) (Oz (n + 7) _ o.fLast 0 65535) ?_)))))))
  apply A8 ((Ge o.fLast 0 65535) && (decide ((o.fFl.length : Int) ≤ 3)))
  intro b1 q1
  refine Af ((Ge o.fLast 0 65535)) (fun h1 => ?_) fun h1 => ?_
  exact An h1 (Ah (An h1 (Bl (c := Ai Aq o.fFl) B (A9 rfl) rfl (An h1 (Dq (An h1 (A4 (v := sb (decide ((o.fFl.length : Int) ≤ 3))) (fun k => rfl) (Cc h1 (Hd q1 h1) rfl))))))))
  exact Ao h1 (Ao h1 (Ao h1 (Ao h1 (Cb h1 (Hb q1 h1) rfl))))
  intro b1 q1
  apply A8 (b1 && (D9 o.fQ))
  intro b2 q2
  refine Af (b1) (fun h2 => ?_) fun h2 => ?_
  exact An h2 (Ah (An h2 (Bl (c := Ai Aj o.fQ) B (A9 rfl) rfl (An h2 (D0 rfl (Bq (Ez _ _ _) D1) (Tj (n + 1) (by omega) _ o.fQ (by assumption) (by assumption)) (Cc h2 (Hd q2 h2) rfl))))))
  exact Ao h2 (Ao h2 (Ao h2 (Cb h2 (Hb q2 h2) rfl)))
  intro b2 q2
  exact E8 (by (try clear ih); (try clear hlt); (try clear hix); (try clear hm); (try clear hmem); (try clear hpl); (try clear hsl); (try clear hlen); (try clear hqn); (try clear hqs); (try clear hs); (try clear B); (try clear B1); (try clear B2); (try clear hl); subst_vars; rw [Ot]; first | done | (cases h1 : Ge x.fId 1 65535 <;> cases h2 : C3 x.fM <;> cases h3 : X7 x <;> cases h4 : Ir pre x <;> simp [h1, h2, h3, h4] at *))
 | x :: r, pre, m + 1, H, B, hl, hm => by
  have hpl : pre.length < o.fFl.length := by rw [hl]; simp
  have hlt : decide ((pre.length : Int) < (o.fFl.length : Int)) = true := by simpa using hpl
  have hmem : x ∈ o.fFl := by rw [hl]; simp
  have hix : IntKind.i64.wrap ((pre.length : Int) + 1) = (((pre ++ [x]).length : Nat) : Int) := by
   rw [Gf _ (by omega) (by omega), zag, zao]
   rfl
  try have hs : x.fM.fTopic.size ≤ 1048576 := hsl x (by assumption)
  show (PR (n + 8) AV).fadr _ _ _ = _
  simp only [C8, C2, B3, Bm, Bs, Bh, Dz, Dy, Fo, A2, B6, Pr.gT, Pr.gF, Pr.hT, Pr.hF, Pr.kT, Pr.kF, Ce, B7, Dj, Ca, Et, Dk, Cx, Bv, Bx, Ed, C6, D2, D5]
  refine Ah (Bl (c := Ai Aq o.fFl) B (A9 rfl) rfl (Dq (A4 (v := sb (decide ((pre.length : Int) < (o.fFl.length : Int)))) (fun k => rfl) (Fn hlt (Ah (Bl (c := Ai Aq o.fFl) B (A9 rfl) rfl (Kr A5 (by decide) hl (H9 (Mb (c := si x.fId) rfl (D0 rfl (Bq (Dl _ _) (Bq (Dl _ _) (Bq (Dl _ _) D1))) (Oz (n + 7) _ x.fId 1 65535) (Hq ?_)))))))))))
  apply A8 ((!(Ge x.fId 1 65535)) || (!(C3 x.fM)))
  intro b1 q1
  refine Af ((Ge x.fId 1 65535)) (fun h1 => ?_) fun h1 => ?_
  exact C4 (nF h1) (Ah (C4 (nF h1) (Bl (c := Ai Aq o.fFl) B (A9 rfl) rfl (C4 (nF h1) (C4 (nF h1) (Kr A5 (by decide) hl (C4 (nF h1) (H9 (C4 (nF h1) (Kg (ds := Aj x.fM) (A9 rfl) rfl (C4 (nF h1) (D0 rfl (Bq (Gi _ (Ff _)) D1) (Tg (n + 2) (by omega) _ x.fM (by assumption)) (C4 (nF h1) (Hq (Cb (nF h1) (mOF q1 (nF h1)) rfl)))))))))))))))
  exact Da (nT h1) (Da (nT h1) (Da (nT h1) (Da (nT h1) (Da (nT h1) (Da (nT h1) (Da (nT h1) (Da (nT h1) (Cc (nT h1) (mOT q1 (nT h1)) rfl))))))))
  intro b1 q1
  apply A8 (b1 || (!(X7 x)))
  intro b2 q2
  refine Af (b1) (fun h2 => ?_) fun h2 => ?_
  exact Da h2 (Da h2 (Da h2 (Da h2 (Da h2 (Da h2 (Da h2 (Cc h2 (mOT q2 h2) rfl)))))))
  exact C4 h2 (Ah (C4 h2 (Bl (c := Ai Aq o.fFl) B (A9 rfl) rfl (C4 h2 (C4 h2 (Kr A5 (by decide) hl (C4 h2 (Kg (ds := Aq x) (A9 rfl) rfl (C4 h2 (D0 rfl (Bq (Gi _ (Du _)) D1) (Aik (n + 7) _ x) (C4 h2 (Hq (Cb h2 (mOF q2 h2) rfl)))))))))))))
  intro b2 q2
  refine Af (b2) (fun h3 => ?_) fun h3 => ?_
  ·exact Fn h3 (E8 (by (try clear ih); (try clear hlt); (try clear hix); (try clear hm); (try clear hmem); (try clear hpl); (try clear hsl); (try clear hlen); (try clear hqn); (try clear hqs); (try clear hs); (try clear B); (try clear B1); (try clear B2); (try clear hl); subst_vars; rw [Ot]; first | done | (cases h1 : Ge x.fId 1 65535 <;> cases h2 : C3 x.fM <;> cases h3 : X7 x <;> cases h4 : Ir pre x <;> simp [h1, h2, h3, h4] at *)))
  refine Fy h3 ?_
  have key := fun g0 kk => U2 (n + 8) ty o hlen x g0 kk i1 H B pre r hl pre [] (n + 8) rfl (by omega)
  simp only [zay, zaY] at key
  rw [key]
  clear key
  cases hpre : Ir pre x
  ·simp only [zal, if_false]
   rw [hix]
   refine (Qw n hn ty o hlen hsl hqn hqs i1 r (pre ++ [x]) m _ B (by rw [hl]; simp) (by simpa using hm)).trans (congrArg (fun b => some (AV.sc (Value.bool b))) ?_)
   (try clear ih); (try clear hlt); (try clear hix); (try clear hm); (try clear hmem); (try clear hpl); (try clear hsl); (try clear hlen); (try clear hqn); (try clear hqs); (try clear hs); (try clear B); (try clear B1); (try clear B2); (try clear hl); subst_vars; rw [Ot]; first | done | (cases h1 : Ge x.fId 1 65535 <;> cases h2 : C3 x.fM <;> cases h3 : X7 x <;> cases h4 : Ir pre x <;> simp [h1, h2, h3, h4] at *)
  ·simp only [if_true]
   exact E8 (by (try clear ih); (try clear hlt); (try clear hix); (try clear hm); (try clear hmem); (try clear hpl); (try clear hsl); (try clear hlen); (try clear hqn); (try clear hqs); (try clear hs); (try clear B); (try clear B1); (try clear B2); (try clear hl); subst_vars; rw [Ot]; first | done | (cases h1 : Ge x.fId 1 65535 <;> cases h2 : C3 x.fM <;> cases h3 : X7 x <;> cases h4 : Ir pre x <;> simp [h1, h2, h3, h4] at *))
theorem Qo (n : Nat) (hn : 1048576 < n) (ty : Nat) (o : A7) (hlen : o.fFl.length ≤ 1048576) (hsl : ∀ x ∈ o.fFl, x.fM.fTopic.size ≤ 1048576) (hqn : o.fQ.length ≤ 1048576) (hqs : ∀ x ∈ o.fQ, x.fTopic.size ≤ 1048576) (i1 : Nat) : ∀ (r pre : List Ad) (m : Nat) (H : Ab) (B : H[i1]? = some ⟨Bf o, true, true⟩), o.fFl = pre ++ r → r.length < m → Rv (PR (n + 9) AV) (n + 9) (fun x H => Ba Ar E0.tp ty H x) m (.ptr i1 0) (Ai Aq o.fFl) (.sc (.int .i64 (o.fFl.length : Int))) (.sc (.int .i64 pre.length)) H = some (.sc (.bool (Ot o pre r)))
 | [], pre, m + 1, H, B, hl, hm => by
  have hlt : decide ((pre.length : Int) < (o.fFl.length : Int)) = false := by
   rw [hl]
   simp
  show (PR (n + 9) AV).bin _ _ _ _ = _
  simp only [C8, C2, B3, Bm, Bs, Bh, Dz, Dy, Fo, A2, B6, Pr.gT, Pr.gF, Pr.hT, Pr.hF, Pr.kT, Pr.kF, Ce, B7, Dj, Ca, Et, Dk, Cx, Bv, Bx, Ed, C6, D2, D5]
  refine A4 (v := sb (decide ((pre.length : Int) < (o.fFl.length : Int)))) (fun k => rfl) (Fy hlt (Ah (Bl (c := si o.fLast) B (A9 rfl) rfl (D0 rfl (Bq (Dl _ _) D1) (Aga (n + 7) _ o.fLast) ?_))))
  apply A8 ((Ge o.fLast 0 65535) && (decide ((o.fFl.length : Int) ≤ 3)))
  intro b1 q1
  refine Af ((Ge o.fLast 0 65535)) (fun h1 => ?_) fun h1 => ?_
  exact An h1 (Ah (An h1 (Bl (c := Ai Aq o.fFl) B (A9 rfl) rfl (An h1 (Dq (An h1 (A4 (v := sb (decide ((o.fFl.length : Int) ≤ 3))) (fun k => rfl) (Cc h1 (Hd q1 h1) rfl))))))))
  exact Ao h1 (Ao h1 (Ao h1 (Ao h1 (Cb h1 (Hb q1 h1) rfl))))
  intro b1 q1
  apply A8 (b1 && (D9 o.fQ))
  intro b2 q2
  refine Af (b1) (fun h2 => ?_) fun h2 => ?_
  exact An h2 (Ah (An h2 (Bl (c := Ai Aj o.fQ) B (A9 rfl) rfl (An h2 (D0 rfl (Bq (Ez _ _ _) D1) (Sh (n + 1) (by omega) _ o.fQ (by assumption) (by assumption)) (Cc h2 (Hd q2 h2) rfl))))))
  exact Ao h2 (Ao h2 (Ao h2 (Cb h2 (Hb q2 h2) rfl)))
  intro b2 q2
  exact E8 (by (try clear ih); (try clear hlt); (try clear hix); (try clear hm); (try clear hmem); (try clear hpl); (try clear hsl); (try clear hlen); (try clear hqn); (try clear hqs); (try clear hs); (try clear B); (try clear B1); (try clear B2); (try clear hl); subst_vars; rw [Ot]; first | done | (cases h2 : C3 x.fM <;> (try rw [Agz x h2]) <;> cases h1 : Ge x.fId 1 65535 <;> cases h4 : Ir pre x <;> cases h5 : (x.fM.fQos == 0) <;> cases h6 : ((x.fM.fQos == 1) == (x.fSt == 1)) <;> cases h7 : Ge x.fSt 1 3 <;> simp [h1, h2, h4, h5, h6, h7] at * <;> contradiction))
 | x :: r, pre, m + 1, H, B, hl, hm => by
  have hpl : pre.length < o.fFl.length := by rw [hl]; simp
  have hlt : decide ((pre.length : Int) < (o.fFl.length : Int)) = true := by simpa using hpl
  have hmem : x ∈ o.fFl := by rw [hl]; simp
  have hix : IntKind.i64.wrap ((pre.length : Int) + 1) = (((pre ++ [x]).length : Nat) : Int) := by
   rw [Gf _ (by omega) (by omega), zag, zao]
   rfl
  try have hs : x.fM.fTopic.size ≤ 1048576 := hsl x (by assumption)
  try have hidx := Aeo o pre r x hl
  show (PR (n + 9) AV).bin _ _ _ _ = _
  simp only [C8, C2, B3, Bm, Bs, Bh, Dz, Dy, Fo, A2, B6, Pr.gT, Pr.gF, Pr.hT, Pr.hF, Pr.kT, Pr.kF, Ce, B7, Dj, Ca, Et, Dk, Cx, Bv, Bx, Ed, C6, D2, D5]
  refine A4 (v := sb (decide ((pre.length : Int) < (o.fFl.length : Int)))) (fun k => rfl) (Fn hlt (Kr A5 (by decide) hl (Kg (ds := Aq x) (A9 rfl) rfl (Vs rfl (A5 _) (On (Du _)) fun iB1 B1 => ?_))))
  replace B := Jw B [⟨Aq x, true, true⟩]
  refine Ah (Bl (c := si x.fId) B1 (A9 rfl) rfl (D0 rfl (Bq (Dl _ _) D1) (Aj9 (n + 7) _ x.fId) (Hq ?_)))
  apply A8 ((!(Ge x.fId 1 65535)) || ((C5 (fun y : Ad => y.fId == x.fId) o.fFl 0) != (pre.length : Int)))
  intro b2 q2
  refine Af ((Ge x.fId 1 65535)) (fun h2 => ?_) fun h2 => ?_
  exact C4 (nF h2) (Ah (C4 (nF h2) (Bl (c := Ai Aq o.fFl) B (A9 rfl) rfl (C4 (nF h2) (Ah (C4 (nF h2) (Bl (c := si x.fId) B1 (A9 rfl) rfl (C4 (nF h2) (D0 rfl (Bq (Ez _ _ _) (Bq (Dl _ _) D1)) (Uc (n + 6) (by omega) _ o.fFl x.fId hlen) (C4 (nF h2) (C4 (nF h2) (A4 (v := sb ((C5 (fun y : Ad => y.fId == x.fId) o.fFl 0) != (pre.length : Int))) (fun k => rfl) (Cb (nF h2) (mOF q2 (nF h2)) rfl)))))))))))))
  exact Da (nT h2) (Da (nT h2) (Da (nT h2) (Da (nT h2) (Da (nT h2) (Da (nT h2) (Da (nT h2) (Cc (nT h2) (mOT q2 (nT h2)) rfl)))))))
  intro b2 q2
  apply A8 (b2 || (!(C3 x.fM)))
  intro b3 q3
  refine Af (b2) (fun h3 => ?_) fun h3 => ?_
  exact Da h3 (Da h3 (Da h3 (Da h3 (Cc h3 (mOT q3 h3) rfl))))
  exact C4 h3 (Ah (C4 h3 (Ks (ds := Aj x.fM) B1 (A9 rfl) rfl (C4 h3 (D0 rfl (Bq (Gi _ (Ff _)) D1) (Sf (n + 3) (by omega) _ x.fM (by assumption)) (C4 h3 (Hq (Cb h3 (mOF q3 h3) rfl))))))))
  intro b3 q3
  refine Af (b3) (fun h4 => ?_) fun h4 => ?_
  ·exact Fn h4 (E8 (by (try clear ih); (try clear hlt); (try clear hix); (try clear hm); (try clear hmem); (try clear hpl); (try clear hsl); (try clear hlen); (try clear hqn); (try clear hqs); (try clear hs); (try clear B); (try clear B1); (try clear B2); (try clear hl); subst_vars; rw [Ot]; first | done | (cases h2 : C3 x.fM <;> (try rw [Agz x h2]) <;> cases h1 : Ge x.fId 1 65535 <;> cases h4 : Ir pre x <;> cases h5 : (x.fM.fQos == 0) <;> cases h6 : ((x.fM.fQos == 1) == (x.fSt == 1)) <;> cases h7 : Ge x.fSt 1 3 <;> simp [h1, h2, h4, h5, h6, h7] at * <;> contradiction)))
  refine Fy h4 (Ah (Ah (Bl (c := si x.fM.fQos) B1 (A9 rfl) rfl (A4 (v := sb (x.fM.fQos == 0)) (fun k => rfl) ?_))))
  apply A8 ((x.fM.fQos == 0) || (!((x.fM.fQos == 1) == (x.fSt == 1))))
  intro b5 q5
  refine Af ((x.fM.fQos == 0)) (fun h5 => ?_) fun h5 => ?_
  exact Da h5 (Da h5 (Da h5 (Da h5 (Da h5 (Da h5 (Da h5 (Da h5 (Cc h5 (mOT q5 h5) rfl))))))))
  exact C4 h5 (Ah (C4 h5 (Ah (C4 h5 (Bl (c := si x.fM.fQos) B1 (A9 rfl) rfl (C4 h5 (A4 (v := sb (x.fM.fQos == 1)) (fun k => rfl) (C4 h5 (Ah (C4 h5 (Bl (c := si x.fSt) B1 (A9 rfl) rfl (C4 h5 (A4 (v := sb (x.fSt == 1)) (fun k => rfl) (C4 h5 (G5 (v := sb (!((x.fM.fQos == 1) == (x.fSt == 1)))) (fun k => rfl) (Cb h5 (mOF q5 h5) rfl))))))))))))))))
  intro b5 q5
  apply A8 (b5 || (!(Ge x.fSt 1 3)))
  intro b6 q6
  refine Af (b5) (fun h6 => ?_) fun h6 => ?_
  exact Da h6 (Da h6 (Da h6 (Da h6 (Cc h6 (mOT q6 h6) rfl))))
  exact C4 h6 (Ah (C4 h6 (Bl (c := si x.fSt) B1 (A9 rfl) rfl (C4 h6 (D0 rfl (Bq (Dl _ _) (Bq (Dl _ _) (Bq (Dl _ _) D1))) (Jl (n + 8) _ x.fSt 1 3) (C4 h6 (Hq (Cb h6 (mOF q6 h6) rfl))))))))
  intro b6 q6
  refine Af (b6) (fun h7 => ?_) fun h7 => ?_
  ·exact Fn h7 (E8 (by (try clear ih); (try clear hlt); (try clear hix); (try clear hm); (try clear hmem); (try clear hpl); (try clear hsl); (try clear hlen); (try clear hqn); (try clear hqs); (try clear hs); (try clear B); (try clear B1); (try clear B2); (try clear hl); subst_vars; rw [Ot]; first | done | (cases h2 : C3 x.fM <;> (try rw [Agz x h2]) <;> cases h1 : Ge x.fId 1 65535 <;> cases h4 : Ir pre x <;> cases h5 : (x.fM.fQos == 0) <;> cases h6 : ((x.fM.fQos == 1) == (x.fSt == 1)) <;> cases h7 : Ge x.fSt 1 3 <;> simp [h1, h2, h4, h5, h6, h7] at * <;> contradiction)))
  ·refine Fy h7 (A4 (v := si (IntKind.i64.wrap ((pre.length : Int) + 1))) (fun k => rfl) ?_)
   rw [hix]
   refine (Qo n hn ty o hlen hsl hqn hqs i1 r (pre ++ [x]) m _ B (by rw [hl]; simp) (by simpa using hm)).trans (congrArg (fun b => some (AV.sc (Value.bool b))) ?_)
   (try clear ih); (try clear hlt); (try clear hix); (try clear hm); (try clear hmem); (try clear hpl); (try clear hsl); (try clear hlen); (try clear hqn); (try clear hqs); (try clear hs); (try clear B); (try clear B1); (try clear B2); (try clear hl); subst_vars; rw [Ot]; first | done | (cases h2 : C3 x.fM <;> (try rw [Agz x h2]) <;> cases h1 : Ge x.fId 1 65535 <;> cases h4 : Ir pre x <;> cases h5 : (x.fM.fQos == 0) <;> cases h6 : ((x.fM.fQos == 1) == (x.fSt == 1)) <;> cases h7 : Ge x.fSt 1 3 <;> simp [h1, h2, h4, h5, h6, h7] at * <;> contradiction)
theorem Vl (o : A7) : ∀ (r pre : List Ad), Ot o pre r = (Pw pre r && (Ge o.fLast 0 65535 && decide ((o.fFl.length : Int) ≤ 3) && D9 o.fQ))
 | [], pre => by rw [Ot, Pw, Bool.true_and]
 | x :: r, pre => by
  rw [Ot, Pw, Vl o r]
  simp only [Bool.and_assoc]
def W8 : Cd := ⟨⟨#[]⟩, ⟨#[]⟩, 0, false⟩
theorem Ag5 {α β : Type} {r : Option β} {w : Nat} {enc : α → List AV} {l : List α} {d : α} {K : AV → Option β} (hw : ∀ x, (enc x).length = w) (h0 : 0 < w) (hl : 0 < l.length) (h : K (.rp (enc (l.headD d) ++ (l.tail.map enc).flatten)) = r) : Fa w (Ai enc l) (.sc (.int .i64 0)) (fun t => K t) = r := by
 refine Ag4 hw h0 hl fun x t e => ?_
 subst e
 exact h
theorem Pd (n : Nat) (hn : 1048576 < n) (ty : Nat) (o : A7) (b0 : Fj o ≤ 1048576) : Cs E0 (n + 10) ty 11 [.agg (Bf o)] = some (.sc (.bool (C9 o))) := by
 obtain ⟨⟨h1, h2⟩, h3, h4⟩ := R9 o b0
 rw [Bb, Ahp, f11]
 simp only [C8]
 refine Lk (H4 _) fun i e hi => ?_
 have key := Qw (n + 1) (by omega) ty o h1 h2 h3 h4 i o.fFl [] (n + 9) _ hi rfl (by omega)
 rw [Vl] at key
 exact key
theorem Lb (n : Nat) (hn : 1048576 < n) (ty : Nat) (o : A7) (b0 : Fj o ≤ 1048576) : Cs E0 (n + 10) ty 10 [.agg (Bf o)] = some (.sc (.bool (C9 o))) := by
 obtain ⟨⟨h1, h2⟩, h3, h4⟩ := R9 o b0
 rw [Bb, Aho, f10]
 simp only [C8, B3, Bm, B7]
 refine Lk (H4 _) fun i e hi => Ah (Bl (c := Ai Aq o.fFl) hi (A9 rfl) rfl (Dq ?_))
 have key := Qo n hn ty o h1 h2 h3 h4 i o.fFl [] (n + 9) _ hi rfl (by omega)
 rw [Vl] at key
 exact key
theorem Tf (n : Nat) (hn : 1048576 < n) (o : A7) (k0 : O0 o) (b0 : Fj o ≤ 1048576) : Cs E0 (n + 11) 4 39 [.agg (Bf o)] = some (.sc (.bool ((C9 o && decide ((o.fQ.length : Int) > 0)) && ((o.fQ.headD W8).fQos == 0 || decide ((o.fFl.length : Int) < 3))))) := by
 rw [Bb, Ahy, f39]
 try simp only [C8, C2, B3, Bm, Bs, Bh, Dz, Dy, Fo, A2, B6, Pr.gT, Pr.gF, Pr.hT, Pr.hF, Pr.kT, Pr.kF, Ce, B7, Dj, Ca, Et, Dk, Cx, Bv, Bx, Ed, C6, D2, D5]
 have hwo := b0
 refine Lk (H4 _) fun iB1 eB1 B1 => Ks (ds := Bf o) B1 (A9 rfl) rfl (D0 rfl (Bq (Gi _ (H4 _)) D1) (Pd (n + 0) (by omega) _ o hwo) ?_)
 apply A8 ((C9 o) && (decide ((o.fQ.length : Int) > 0)))
 intro b2 q2
 refine Af ((C9 o)) (fun h2 => ?_) fun h2 => ?_
 exact An h2 (Ah (An h2 (Bl (c := Ai Aj o.fQ) B1 (A9 rfl) rfl (An h2 (Dq (An h2 (A4 (v := sb (decide ((o.fQ.length : Int) > 0))) (fun k => rfl) (Cc h2 (Hd q2 h2) rfl))))))))
 exact Ao h2 (Ao h2 (Ao h2 (Ao h2 (Cb h2 (Hb q2 h2) rfl))))
 intro b2 q2
 apply A8 (b2 && ((((o.fQ.headD W8).fQos) == 0) || (decide ((o.fFl.length : Int) < 3))))
 intro b3 q3
 refine Af (b2) (fun h3 => ?_) fun h3 => ?_
 ·refine An h3 (Ah (An h3 (Bl (c := Ai Aj o.fQ) B1 (A9 rfl) rfl (An h3 (Ag5 (d := W8) Ec (by decide) (by first | (simp_all; done) | (simp at *; omega)) (An h3 (H9 (An h3 (Mb (c := .sc (.int .i64 ((o.fQ.headD W8).fQos))) rfl (An h3 (A4 (v := .sc (.bool (((o.fQ.headD W8).fQos) == 0))) (fun k => rfl) (An h3 ?_))))))))))))
  apply A8 ((((o.fQ.headD W8).fQos) == 0) || (decide ((o.fFl.length : Int) < 3)))
  intro b4 q4
  refine Af ((((o.fQ.headD W8).fQos) == 0)) (fun h4 => ?_) fun h4 => ?_
  exact Da h4 (Da h4 (Da h4 (Da h4 (An h3 (Cc h4 (mOT q4 h4) rfl)))))
  exact C4 h4 (Ah (C4 h4 (Bl (c := Ai Aq o.fFl) B1 (A9 rfl) rfl (C4 h4 (Dq (C4 h4 (A4 (v := sb (decide ((o.fFl.length : Int) < 3))) (fun k => rfl) (An h3 (Cb h4 (mOF q4 h4) rfl)))))))))
  intro b4 q4
  exact Cc h3 (by subst q4; exact Hd q3 h3) rfl
 exact Ao h3 (Ao h3 (Ao h3 (Ao h3 (Ao h3 (Ao h3 (Ao h3 (w_u (w_u (w_u (w_u (Ao h3 (Cb h3 (Hb q3 h3) rfl))))))))))))
 intro b3 q3
 exact E8 (by subst_vars; rfl)
end
section
open Go
variable {β : Type} {n : Nat} {r : Option β}
theorem T2 (s : ByteArray) (hs : s.size ≤ 140737488355328) (H : Ab) (K : KO β) : Ic 1 1 .nl (A3 s) H K = K (.sl H.length 0 s.size 1) (H ++ [⟨Be s, true, true⟩]) := by
 have e1 : Cj H 1 (A3 s) = some (Be s) := by
  show (if (Be s).length = s.size * 1 then some (Be s) else none) = _
  rw [if_pos (by rw [Ei]; omega)]
 have e2 : Cj H 1 .nl = some [] := rfl
 have e3 : G2 (A3 s) = some s.size := rfl
 simp only [Ic, G2, e1, e2, L5, zab, e3]
 rw [if_pos (by omega), if_pos (U8 s)]
 simp only [Fg, zaw, zah]
theorem Uv {H : Ab} {id d : Nat} {s : ByteArray} (h : H[id]? = some ⟨Be s, true, true⟩) : B4 Ar E0.tp H (d + 2) 22 (.sl id 0 s.size 1) = some (A3 s, [id]) := by
 rw [Gn]
 have ha : Ga H id = true := by simp only [Ga, h]
 have hr : Ax H id 0 (s.size * 1) = some (Be s) := by
  have hl := Ei s
  simp only [Ax, h, if_true, zaw, Nat.mul_one, hl, zak, zaA]
  rw [← hl, za0]
 obtain ⟨i, j, h1, h2, h3, h4⟩ := Jk
 simp only [h1, h2, zab, h3, if_true, ha, hr]
 have ho := AaJ (ti := Ar) (tp := E0.tp) (H := H) (d := d) (zad s.size j.cty).flatten (bv s) (by rw [Aha]; simp [h4])
 rw [J3, ho, zab, ← J3]
theorem W2 (n : Nat) (hn : 1 < n) (s : ByteArray) (hs : s.size ≤ 1048576) : Cs E0 (n + 1) 22 88 [.ro 1 [A3 s]] = some (A3 s) := by
 rw [Bb, AhU, f88]
 simp only [B7]
 refine Dq ?_
 obtain ⟨m, rfl⟩ : ∃ m, n = m + 2 := ⟨n - 2, by omega⟩
 rw [Pv]
 simp only [Bh, A2, Ca, Bm, C6]
 refine A4 (v := bT) (fun k => rfl) (Fn rfl ?_)
 have e1 : ∀ K : AV → Option AV, Fa 1 (.ro 1 [A3 s]) (.sc (.int .i64 0)) K = K (.rp [A3 s]) := fun K => Q8 1 1 [A3 s] 0 K (by decide) (by simp)
 rw [e1, Oa, T2 s (by omega)]
 refine A4 (v := si 1) (fun k => rfl) ?_
 rw [Pv]
 simp only [Bh, A2]
 refine A4 (v := bF) (fun k => rfl) (Fy rfl ?_)
 rw [Ba, Uv (d := 6) (s := s) rfl]
 rfl
theorem Agl {H : Ab} {id d : Nat} {m : Cd} (h : H[id]? = some ⟨Be m.fBody, true, true⟩) : Cg (B4 Ar E0.tp H (d + 2)) Hg [.sc (.string m.fTopic), .sl id 0 m.fBody.size 1, .sc (.int .i64 m.fQos), .sc (.bool m.fRetain)] = some (Aj m, [id]) := by
 have hb := Uv (d := d) h
 simp only [Hg, Cg, I8, hb, zab, zah, zan]
 rfl
theorem S3 {H : Ab} {id : Nat} {m : Cd} (h : H[id]? = some ⟨Be m.fBody, true, true⟩) : Ba Ar E0.tp 33 H (.agg [.sc (.string m.fTopic), .sl id 0 m.fBody.size 1, .sc (.int .i64 m.fQos), .sc (.bool m.fRetain)]) = some (.agg (Aj m)) := by
 obtain ⟨i, hi, hc⟩ := Nw
 rw [Ba, E4, hi, zab, hc, Agl (d := 5) h]
 rfl
end
section
open Go
variable {β : Type} {n : Nat} {r : Option β}
theorem Q9 (n : Nat) (m : Cd) (hs : m.fBody.size ≤ 1048576) : Cs E0 (n + 1) 33 101 [.agg (Aj m)] = some (.agg (Aj m)) := by
 rw [Bb, Afe, f101]
 simp only [C8, C2, B3, Bm, C6, Bx, Bs, L8]
 rw [Ny _ _ _ (Ff m)]
 simp only [zay, zah, zav, zaw]
 have hH : ([⟨Aj m, true, true⟩] ++ [⟨Hs, true, true⟩] : Ab)[0]? = some ⟨Aj m, true, true⟩ := rfl
 refine Ah (Bl (c := ss m.fTopic) hH (A9 rfl) rfl (Ah (Bl (c := A3 m.fBody) hH (A9 rfl) rfl (Ah (Bl (c := si m.fQos) hH (A9 rfl) rfl (Ah (Bl (c := sb m.fRetain) hH (A9 rfl) rfl ?_)))))))
 rw [T2 _ (by omega)]
 refine Oe (cs := [ss m.fTopic, .sl 2 0 m.fBody.size 1, si m.fQos, sb m.fRetain]) rfl ?_
 rw [Ip 4 1 0 _ ⟨Hs, true, true⟩ [.sc (.string m.fTopic), .sl 2 0 m.fBody.size 1, .sc (.int .i64 m.fQos), .sc (.bool m.fRetain)] _ _ rfl rfl rfl (by decide) rfl]
 exact Ks (ds := [ss m.fTopic, .sl 2 0 m.fBody.size 1, si m.fQos, sb m.fRetain]) (cs := [ss m.fTopic, .sl 2 0 m.fBody.size 1, si m.fQos, sb m.fRetain]) rfl (zak _) rfl (S3 rfl)
theorem Ro (n : Nat) (hn : 1 < n) (m : Cd) (hs : m.fBody.size ≤ 1048576) : Cs E0 (n + 2) 33 99 [.agg (Aj m)] = some (.agg (Aj m)) := by
 rw [Bb, Aib, f99]
 simp only [C8, C2, B3, Bm, C6, Bx, Bs, Bv, L8]
 rw [Ny _ _ _ (Ff m)]
 simp only [zay, zah, zav, zaw]
 have hH : ([⟨Aj m, true, true⟩] ++ [⟨Hs, true, true⟩] : Ab)[0]? = some ⟨Aj m, true, true⟩ := rfl
 refine Ah (Bl (c := A3 m.fBody) hH (A9 rfl) rfl (Oe (cs := [A3 m.fBody]) rfl ?_))
 simp only [Fg]
 rw [F5 (vs := [.ro 1 [A3 m.fBody]]) rfl rfl (W2 n hn m.fBody hs)]
 obtain ⟨i, j, h1, h2, h3, h4⟩ := Jk
 have hi : ∀ N, Bn Ar E0.tp N 22 (A3 m.fBody) = (.sl N 0 m.fBody.size 1, [⟨Be m.fBody, true, true⟩]) := by
  intro N
  show Bn Ar E0.tp N 22 (.ro m.fBody.size (Be m.fBody)) = _
  simp only [Bn, h1, zab, h2, zaC, h3, J3, Sj]
 rw [hi]
 simp only
 refine Ah ?_
 rw [Ip 1 0 (0 + 1) _ ⟨Aj m, true, true⟩ [.sl 3 0 m.fBody.size 1] _ _ rfl rfl rfl (A9 rfl) rfl]
 refine Ks (ds := [ss m.fTopic, .sl 3 0 m.fBody.size 1, si m.fQos, sb m.fRetain]) (cs := [ss m.fTopic, .sl 3 0 m.fBody.size 1, si m.fQos, sb m.fRetain]) rfl (zak _) rfl ?_
 rw [Ip 4 1 0 _ ⟨Hs, true, true⟩ [.sc (.string m.fTopic), .sl 3 0 m.fBody.size 1, .sc (.int .i64 m.fQos), .sc (.bool m.fRetain)] _ _ rfl rfl rfl (by decide) rfl]
 exact Ks (ds := [ss m.fTopic, .sl 3 0 m.fBody.size 1, si m.fQos, sb m.fRetain]) (cs := [ss m.fTopic, .sl 3 0 m.fBody.size 1, si m.fQos, sb m.fRetain]) rfl (zak _) rfl (S3 rfl)
theorem M3 {d w te g bytes k : Nat} {cty : List Nat} {H X0 : Ab} {x : AV} {cells cs z : List AV} {args vs : List AV} {K : KO β} (hx : OwnS d H w cty x k cells) (hh : Gc g = false) (hv : args.mapM (Dg (H ++ X0) 8) = some vs) (ht : Cs E0 n te g vs = some (.agg cs))
  (hte : ∃ i, Ar te = some i ∧ i.cty = cty) (hok : Es (Gr Ar E0.tp d) cty cs) (hfl : cs.all Iq = true) (hw : cs.length = w) (hz : z.length = w) (hb : (k + 1) * bytes ≤ 140737488355328) (h : ∀ x' H', OwnS d H' w cty x' (k + 1) (cells ++ cs) → K x' H' = r) :
  ((PR n β).call te (.fn g [] []) args (H ++ X0) fun t G => (Fe z [(0, w, t)]).bind fun ct => Fg 1 w ct true G fun y G => Ic w bytes x y G K) = r := by
 obtain ⟨i, hi, rfl⟩ := hte
 rw [F5 hh hv ht, H5, hi, zaC]
 simp only
 have hlen := M7 (ti := Ar) (tp := E0.tp) (H ++ X0).length i.cty cs
 have hleaf := N9 (ti := Ar) (tp := E0.tp) cs (H ++ X0).length i.cty hfl
 have hf : Fe z [(0, w, .agg (B5 Ar E0.tp (H ++ X0).length i.cty cs).1)] = some (B5 Ar E0.tp (H ++ X0).length i.cty cs).1 := by
  have hc : Cv (.agg (B5 Ar E0.tp (H ++ X0).length i.cty cs).1) = some (B5 Ar E0.tp (H ++ X0).length i.cty cs).1 := by
   show (if _ then _ else none) = _
   rw [if_pos hleaf]
  have hs : Cl z 0 (B5 Ar E0.tp (H ++ X0).length i.cty cs).1 = (B5 Ar E0.tp (H ++ X0).length i.cty cs).1 := by
   unfold Cl
   rw [zbM, zah, zbe (by rw [hlen, hw, hz]; omega), zan]
  show ((Cv (.agg _)).bind fun cs => if cs.length = w then (if 0 + w ≤ z.length then Fe (Cl z 0 cs) [] else none) else none) = _
  rw [hc, zab, if_pos (by rw [hlen, hw]), if_pos (by omega), hs]
  rfl
 rw [hf, zab]
 have key := Aaf (H := H) (X := X0 ++ (B5 Ar E0.tp (H ++ X0).length i.cty cs).2) (bytes := bytes) (er := (B5 Ar E0.tp (H ++ X0).length i.cty cs).1) (ec := cs) (eids := zbk (H ++ X0).length (B5 Ar E0.tp (H ++ X0).length i.cty cs).2.length) (K := K) (r := r) hx (by rw [hlen, hw]) hleaf (by
   have := AaK (d := d) (H := H ++ X0) hok
   rwa [zaj] at this) zbb (fun j hj => by
   rw [zaQ] at hj
   have := hj.1
   simp at this
   omega) hb h
 rw [← zaj] at key
 exact key
theorem W4 (n : Nat) (hn : 1048576 < n) (l : List Cd) (hl : l.length ≤ 1048576) (hs : ∀ x ∈ l, x.fBody.size ≤ 1048576) : ∀ (t pre : List Cd) (m : Nat) (x : AV) (H : Ab), l = pre ++ t → t.length < m → OwnS 7 H 4 Hg x pre.length (pre.map Aj).flatten →
  Ls (PR (n + 2) AV) (n + 2) (fun x H => Ba Ar E0.tp 25 H x) m (Ai Aj l) x (si pre.length) H = some (Ai Aj l)
 | [], pre, m + 1, x, H, he, hm, hx => by
  rw [zan] at he
  subst he
  rw [Ls]
  simp only [B7, Bh, A2]
  rw [Jb, Ep, Ea, if_neg (by simp)]
  obtain ⟨ids, ho, hno⟩ := Rb (d := 7) (tyS := 25) K2 hx
  rw [Ba, ho, zab, if_pos hno]
 | y :: t, pre, m + 1, x, H, he, hm, hx => by
  have hlt : pre.length < l.length := by rw [he]; simp
  have hy : y ∈ l := by rw [he]; simp
  rw [Ls]
  simp only [B7, Bh, A2, Ca, Bm, Bx, Bv, C6]
  rw [Jb, Ep, Ea, if_pos (by simpa using hlt)]
  have hel := fun k => Nr (β := AV) Ec (by decide) pre y t k
  rw [← he] at hel
  rw [hel, Sp 4 _ _ _ _ (Ec y)]
  have hst := fun K h => M3 (β := AV) (n := n + 2) (X0 := []) (bytes := 56) (z := Hs) (K := K) (r := some (Ai Aj l)) hx rfl (Bq (Gi _ (Ff y)) D1) (Q9 (n + 1) y (hs y hy)) Nw (Io 5 y) (Ff y) (Ec y) rfl (by omega) h
  simp only [zan] at hst
  refine hst _ fun x' H' hx' => ?_
  rw [Fl _ _ (by omega)]
  have ih := W4 n hn l hl hs t (pre ++ [y]) m x' H' (by rw [he]; simp) (by simpa using hm) (by
   rw [zag, zao, za5, zax]
   simpa using hx')
  rw [zag, zao] at ih
  exact ih
theorem Ox (n : Nat) (hn : 1048576 < n) (l : List Cd) (hl : l.length ≤ 1048576) (hs : ∀ x ∈ l, x.fBody.size ≤ 1048576) : Cs E0 (n + 3) 25 100 [Ai Aj l] = some (Ai Aj l) := by
 rw [Bb, Afd, f100]
 exact W4 n hn l hl hs l [] (n + 2) .nl [] rfl (by omega) (OwnS.nil _ _ _ _)
theorem Nq (n : Nat) (hn : 1048576 < n) (l : List Cd) (hl : l.length ≤ 1048576) (hs : ∀ x ∈ l, x.fBody.size ≤ 1048576) : ∀ (t pre : List Cd) (m : Nat) (x : AV) (H : Ab), l = pre ++ t → t.length < m → OwnS 7 H 4 Hg x pre.length (pre.map Aj).flatten →
  N3 (PR (n + 2) AV) (n + 2) (fun x H => Ba Ar E0.tp 25 H x) m x (Ai Aj l) (si l.length) (si pre.length) H = some (Ai Aj l)
 | [], pre, m + 1, x, H, he, hm, hx => by
  rw [zan] at he
  subst he
  rw [N3]
  simp only [B7, Bh, A2]
  rw [Ep, Ea, if_neg (by simp)]
  obtain ⟨ids, ho, hno⟩ := Rb (d := 7) (tyS := 25) K2 hx
  rw [Ba, ho, zab, if_pos hno]
 | y :: t, pre, m + 1, x, H, he, hm, hx => by
  have hlt : pre.length < l.length := by rw [he]; simp
  have hy : y ∈ l := by rw [he]; simp
  rw [N3]
  simp only [B7, Bh, A2, Ca, Bm, Bx, Bv, C6, C2, Bs]
  rw [Ep, Ea, if_pos (by simpa using hlt)]
  have hel := fun k => Nr (β := AV) Ec (by decide) pre y t k
  rw [← he] at hel
  rw [hel, Sp 4 _ _ _ _ (Ec y)]
  refine Vs rfl (Ec _) (On (Ff _)) fun i hi => Su hi (Ec _) (M3 (β := AV) (n := n + 2) (X0 := [⟨Aj y, true, true⟩]) (bytes := 56) (z := Hs) (r := some (Ai Aj l)) hx rfl (Bq (Gi _ (Ff y)) D1) (Ro n (by omega) y (hs y hy)) Nw (Io 5 y) (Ff y) (Ec y) rfl (by omega) fun x' H' hx' => ?_)
  rw [Fl _ _ (by omega)]
  have ih := Nq n hn l hl hs t (pre ++ [y]) m x' H' (by rw [he]; simp) (by simpa using hm) (by
   rw [zag, zao, za5, zax]
   simpa using hx')
  rw [zag, zao] at ih
  exact ih
theorem Pq (n : Nat) (hn : 1048576 < n) (l : List Cd) (hl : l.length ≤ 1048576) (hs : ∀ x ∈ l, x.fBody.size ≤ 1048576) : Cs E0 (n + 3) 25 98 [Ai Aj l] = some (Ai Aj l) := by
 rw [Bb, Aia, f98]
 simp only [B7]
 exact Dq (Nq n hn l hl hs l [] (n + 2) .nl [] rfl (by omega) (OwnS.nil _ _ _ _))
end
section
open Go
def OwnSI (d : Nat) (H : Ab) (w : Nat) (cty : List Nat) (x : AV) (k : Nat) (cells : List AV) (ids : List Nat) : Prop :=
 (x = .nl ∧ k = 0 ∧ cells = [] ∧ ids = []) ∨ ∃ id raw is, ids = id :: is ∧ x = .sl id 0 k w ∧ H[id]? = some ⟨raw, true, true⟩ ∧ raw.length = k * w ∧ OwnC d H (zad k cty).flatten raw cells is ∧ (id :: is).Nodup
theorem OwnSI.nil (d : Nat) (H : Ab) (w : Nat) (cty : List Nat) : OwnSI d H w cty .nl 0 [] [] := .inl ⟨rfl, rfl, rfl, rfl⟩
theorem OwnSI.lt {d : Nat} {H : Ab} {w : Nat} {cty : List Nat} {x : AV} {k : Nat} {cells : List AV} {ids : List Nat} (h : OwnSI d H w cty x k cells ids) : ∀ i ∈ ids, i < H.length := by
 rcases h with ⟨_, _, _, rfl⟩ | ⟨id, raw, is, rfl, _, h2, _, h4, _⟩
 ·intro i hi
  cases hi
 ·intro i hi
  rcases za2.1 hi with rfl | hi
  ·exact (zac.1 h2).1
  ·exact h4.lt i hi
theorem OwnSI.nodup {d : Nat} {H : Ab} {w : Nat} {cty : List Nat} {x : AV} {k : Nat} {cells : List AV} {ids : List Nat} (h : OwnSI d H w cty x k cells ids) : ids.Nodup := by
 rcases h with ⟨_, _, _, rfl⟩ | ⟨id, raw, is, rfl, _, h2, _, h4, h5⟩
 ·exact zb3
 ·exact h5
theorem OwnSI.frame {d : Nat} {H H' : Ab} {w : Nat} {cty : List Nat} {x : AV} {k : Nat} {cells : List AV} {ids : List Nat} (h : OwnSI d H w cty x k cells ids) (hs : ∀ i ∈ ids, H'[i]? = H[i]?) : OwnSI d H' w cty x k cells ids := by
 rcases h with h | ⟨id, raw, is, rfl, h1, h2, h3, h4, h5⟩
 ·exact .inl h
 ·exact .inr ⟨id, raw, is, rfl, h1, by rw [hs id za8]; exact h2, h3, h4.frame fun i hi => hs i (zat _ hi), h5⟩
theorem OwnSI.grow {d : Nat} {H : Ab} {w : Nat} {cty : List Nat} {x : AV} {k : Nat} {cells : List AV} {ids : List Nat} (h : OwnSI d H w cty x k cells ids) (X : List Hf) : OwnSI d (H ++ X) w cty x k cells ids :=
 h.frame fun i hi => zaf (h.lt i hi)
theorem OwnSI.res {H : Ab} {d w tyS k : Nat} {cty : List Nat} {x : AV} {cells : List AV} {ids : List Nat} (h : OwnSI d H w cty x k cells ids) (hty : ∃ i j, Ar tyS = some i ∧ Ar i.elem = some j ∧ j.size = w ∧ j.cty = cty) : B4 Ar E0.tp H (d + 1) tyS x = some (.ro k cells, ids) := by
 rcases h with ⟨rfl, rfl, rfl, rfl⟩ | ⟨id, raw, is, rfl, rfl, h2, h3, h4, h5⟩
 ·rfl
 ·obtain ⟨i, j, e1, e2, rfl, rfl⟩ := hty
  rw [Gn]
  have ha : Ga H id = true := by simp only [Ga, h2]
  have hr : Ax H id 0 (k * j.size) = some raw := by
   simp only [Ax, h2, if_true, zaw, h3, zak, zaA]
   rw [← h3, za0]
  have h4' : Cg (B4 Ar E0.tp H d) (zad k j.cty).flatten raw = some (cells, is) := h4
  simp only [e1, e2, zab, if_true, ha, hr, h4']
variable {β : Type} {n : Nat} {r : Option β}
theorem Acx {d : Nat} {H X : Ab} {w bytes : Nat} {cty : List Nat} {x : AV} {k : Nat} {cells er ec : List AV} {ids eids : List Nat} {K : KO β} (hx : OwnSI d H w cty x k cells ids) (hw : er.length = w) (hl : er.all Ap = true)
  (he : OwnC d (H ++ X) cty er ec eids) (hn : eids.Nodup) (hge : ∀ i ∈ eids, H.length ≤ i) (hb : (k + 1) * bytes ≤ 140737488355328)
  (h : ∀ x' H' ids', OwnSI d H' w cty x' (k + 1) (cells ++ ec) ids' → (∀ i ∈ ids', i ∈ ids ∨ H.length ≤ i) → (∀ i, i < H.length → i ∉ ids → H'[i]? = H[i]?) → H.length ≤ H'.length → K x' H' = r) :
  Fg 1 w er true (H ++ X) (fun y G => Ic w bytes x y G K) = r := by
 have hy : ∀ G : Ab, Cj (G ++ [⟨er, true, true⟩]) w (.sl G.length 0 1 w) = some er := by
  intro G
  simp only [Cj, if_true, zbt, Ax, Kt G _ [], zaw, hw, zak, zaA]
  rw [← hw, za0]
 rcases hx with ⟨rfl, rfl, rfl, rfl⟩ | ⟨id, raw, is, rfl, rfl, h2, h3, h4, h5⟩
 ·simp only [Fg, Ic, G2, zab, hy]
  rw [show Cj (H ++ X ++ [⟨er, true, true⟩]) w .nl = some [] from rfl]
  simp only [zab, L5]
  rw [if_pos hb, if_pos hl]
  refine h _ _ (_ :: eids) (.inr ⟨_, er, eids, rfl, rfl, ?_, by simp [hw], ?_, ?_⟩) (fun i hi => .inr ?_) (fun i hi _ => ?_) (by simp)
  ·rw [zae (zak _), zaO]
   rfl
  ·simp only [zaw, List.replicate_one, zaE, List.flatten_nil, zan, zah]
   exact (he.grow _).grow _
  ·rw [zaH]
   refine ⟨fun hm => ?_, hn⟩
   have := he.lt _ hm
   simp at this
   omega
  ·rcases za2.1 hi with rfl | hi
   ·simp [zaS]
   ·exact hge i hi
  ·rw [zaj, zaj, zaf hi]
 ·have hid : id < H.length := (zac.1 h2).1
  have hg : (H ++ X ++ [(⟨er, true, true⟩ : Hf)])[id]? = some ⟨raw, true, true⟩ := by
   rw [zaj, zaf hid]
   exact h2
  have hcx : Cj (H ++ X ++ [⟨er, true, true⟩]) w (.sl id 0 k w) = some raw := by
   simp only [Cj, if_true, Ax, hg, zaw, h3, zak, zaA]
   rw [← h3, za0]
  simp only [Fg, Ic, G2, zab, hy, hcx, L5, hg, if_true]
  rw [if_pos hb, if_pos hl]
  have hn5 := zaH.1 h5
  have hne : ∀ i ∈ is, i ≠ id := fun i hi e => hn5.1 (e ▸ hi)
  have hne2 : ∀ i ∈ eids, i ≠ id := fun i hi e => by
   have := hge i hi
   omega
  refine h _ _ (_ :: (is ++ eids)) (.inr ⟨_, raw ++ er, is ++ eids, rfl, rfl, ?_, by simp [h3, hw, zbN], ?_, ?_⟩) (fun i hi => ?_) (fun i hi hni => ?_) (by simp; omega)
  ·rw [zae (zak _), zaO]
   rfl
  ·have e : (zad (k + 1) cty).flatten = (zad k cty).flatten ++ cty := by
    rw [List.replicate_succ', zax]
    simp
   rw [e]
   refine OwnC.append ?_ ?_
   ·refine OwnC.grow (OwnC.frame (H := H ++ X ++ [⟨er, true, true⟩]) ((h4.grow X).grow _) fun i hi => ?_) _
    rw [za1 (fun e => hne i hi e.symm)]
   ·refine OwnC.grow (OwnC.frame (H := H ++ X ++ [⟨er, true, true⟩]) (he.grow _) fun i hi => ?_) _
    rw [za1 (fun e => hne2 i hi e.symm)]
  ·rw [zaH]
   refine ⟨fun hm => ?_, ?_⟩
   ·rcases zaJ.1 hm with hm | hm
    ·have := h4.lt _ hm
     simp at this
     omega
    ·have := he.lt _ hm
     simp at this
     omega
   ·rw [zaP]
    refine ⟨hn5.2, hn, fun a ha b hb e => ?_⟩
    have h1 := h4.lt a ha
    have h2 := hge b hb
    omega
  ·rcases za2.1 hi with rfl | hi
   ·right
    simp [zaS]
   ·rcases zaJ.1 hi with hi | hi
    ·exact .inl (zat _ hi)
    ·exact .inr (hge i hi)
  ·have : i ≠ id := fun e => hni (e ▸ za8)
   rw [zaf (by simp; omega), za1 (fun e => this e.symm), zaj, zaf hi]
theorem Aed {w : Nat} {z ys : List AV} (hz : z.length = w) (hy : ys.length = w) (hl : ys.all Ap = true) : Fe z [(0, w, .agg ys)] = some ys := by
 have hc : Cv (.agg ys) = some ys := by
  show (if ys.all Ap then some ys else none) = _
  rw [if_pos hl]
 have hs : Cl z 0 ys = ys := by
  unfold Cl
  rw [zbM, zah, zbe (by rw [hy, hz]; omega), zan]
 show ((Cv (.agg ys)).bind fun cs => if cs.length = w then (if 0 + w ≤ z.length then Fe (Cl z 0 cs) [] else none) else none) = _
 rw [hc, zab, if_pos hy, if_pos (by omega), hs]
 rfl
end
section
open Go
variable {β : Type} {n : Nat} {r : Option β}
theorem Ag3 {α : Type} {w : Nat} {enc : α → List AV} {l pre t : List α} {x : α} {K : AV → Option β} (hw : ∀ x, (enc x).length = w) (h0 : 0 < w) (hl : l = pre ++ x :: t) (h : K (.rp (enc x ++ (t.map enc).flatten)) = r) : Fa w (Ai enc l) (.sc (.int .i64 (pre.length : Int))) (fun t => K t) = r := by
 subst hl
 exact (Nr (β := β) hw h0 pre x t (fun t => K t)).trans h
theorem Aeu (N : Nat) (s : ByteArray) : Bn Ar E0.tp N 22 (A3 s) = (.sl N 0 s.size 1, [⟨Be s, true, true⟩]) := by
 obtain ⟨i, j, h1, h2, h3, h4⟩ := Jk
 show Bn Ar E0.tp N 22 (.ro s.size (Be s)) = _
 simp only [Bn, h1, zab, h2, zaC, h3, J3, Sj]
theorem Aev (N : Nat) (m : Cd) : B5 Ar E0.tp N Hg (Aj m) = ([.sc (.string m.fTopic), .sl N 0 m.fBody.size 1, .sc (.int .i64 m.fQos), .sc (.bool m.fRetain)], [⟨Be m.fBody, true, true⟩]) := by
 have h := Aeu N m.fBody
 show B5 Ar E0.tp N [9, 22, 3, 4] [.sc (.string m.fTopic), A3 m.fBody, .sc (.int .i64 m.fQos), .sc (.bool m.fRetain)] = _
 simp only [B5, zbB, zbG, Hm, zay, zbd, h, zah, zan]
theorem Kp (N : Nat) (f : Ad) : B5 Ar E0.tp N F9 (Aq f) = ([.sc (.int .i64 f.fId), .sc (.string f.fM.fTopic), .sl N 0 f.fM.fBody.size 1, .sc (.int .i64 f.fM.fQos), .sc (.bool f.fM.fRetain), .sc (.int .i64 f.fSt)], [⟨Be f.fM.fBody, true, true⟩]) := by
 have h := Aeu N f.fM.fBody
 show B5 Ar E0.tp N [3, 9, 22, 3, 4, 3] [.sc (.int .i64 f.fId), .sc (.string f.fM.fTopic), A3 f.fM.fBody, .sc (.int .i64 f.fM.fQos), .sc (.bool f.fM.fRetain), .sc (.int .i64 f.fSt)] = _
 simp only [B5, zbB, zbG, Hm, zay, zbd, h, zah, zan]
theorem Qn {te g k : Nat} {H X0 : Ab} {x : AV} {cells : List AV} {ids : List Nat} {args : List AV} {f : Ad} {K : KO β} (hx : OwnSI 6 H 6 F9 x k cells ids) (hh : Gc g = false) (hv : args.mapM (Dg (H ++ X0) 8) = some [.agg (Aj f.fM)]) (ht : Cs E0 n te g [.agg (Aj f.fM)] = some (.agg (Aj f.fM)))
  (hte : ∃ i, Ar te = some i ∧ i.cty = Hg) (hb : (k + 1) * 72 ≤ 140737488355328)
  (h : ∀ x' H' ids', OwnSI 6 H' 6 F9 x' (k + 1) (cells ++ Aq f) ids' → (∀ i ∈ ids', i ∈ ids ∨ H.length ≤ i) → (∀ i, i < H.length → i ∉ ids → H'[i]? = H[i]?) → H.length ≤ H'.length → K x' H' = r) :
  ((PR n β).call te (.fn g [] []) args (H ++ X0) fun t G => (Fe Tu [(0, 1, si f.fId), (1, 4, t), (5, 1, si f.fSt)]).bind fun c => (Fe Tu [(0, 6, .agg c)]).bind fun ct => Fg 1 6 ct true G fun y G => Ic 6 72 x y G K) = r := by
 obtain ⟨i, hi, hc⟩ := hte
 rw [F5 hh hv ht, H5, hi, zaC, hc, Aev]
 simp only
 have hf : Fe Tu [(0, 1, si f.fId), (1, 4, .agg [ss f.fM.fTopic, .sl (H ++ X0).length 0 f.fM.fBody.size 1, si f.fM.fQos, sb f.fM.fRetain]), (5, 1, si f.fSt)] = some [si f.fId, ss f.fM.fTopic, .sl (H ++ X0).length 0 f.fM.fBody.size 1, si f.fM.fQos, sb f.fM.fRetain, si f.fSt] := rfl
 rw [hf, zab, Aed (w := 6) rfl rfl rfl, zab]
 have key := Acx (H := H) (X := X0 ++ [⟨Be f.fM.fBody, true, true⟩]) (bytes := 72) (er := (B5 Ar E0.tp (H ++ X0).length F9 (Aq f)).1) (ec := Aq f) (eids := zbk (H ++ X0).length (B5 Ar E0.tp (H ++ X0).length F9 (Aq f)).2.length) (K := K) (r := r) hx (by rw [Kp]; rfl) (by rw [Kp]; rfl) (by
   have := AaK (d := 6) (H := H ++ X0) (P2 4 f)
   rw [Kp] at this ⊢
   rwa [zaj] at this) zbb (fun j hj => by
   rw [zaQ] at hj
   have := hj.1
   simp at this
   omega) hb h
 rw [Kp, ← zaj] at key
 exact key
structure OutI (H : Ab) (io i2 i1 : Nat) (o : A7) (x q : AV) (k : Nat) (cells : List AV) (ids qids : List Nat) : Prop where
 ho : H[io]? = some ⟨[si o.fLast, x, q], true, true⟩
 hs : OwnSI 6 H 6 F9 x k cells ids
 hq : B4 Ar E0.tp H 7 25 q = some (Ai Aj o.fQ, qids)
 qn : qids.Nodup
 hz : ∃ z2, H[i2]? = some ⟨z2, true, true⟩ ∧ z2.length = 3
 src : H[i1]? = some ⟨Bf o, true, true⟩
 ne : io ≠ i2
 ne1 : i1 ≠ io
 ne2 : i1 ≠ i2
 o1 : io ∉ ids
 o2 : io ∉ qids
 z1 : i2 ∉ ids
 z2 : i2 ∉ qids
 s1 : i1 ∉ ids
 dj : ∀ i ∈ qids, i ∉ ids
theorem OutI.lt {H : Ab} {io i2 i1 : Nat} {o : A7} {x q : AV} {k : Nat} {cells : List AV} {ids qids : List Nat} (h : OutI H io i2 i1 o x q k cells ids qids) : io < H.length ∧ i2 < H.length ∧ i1 < H.length ∧ ∀ i ∈ qids, i < H.length := by
 obtain ⟨z2, hz, _⟩ := h.hz
 exact ⟨(zac.1 h.ho).1, (zac.1 hz).1, (zac.1 h.src).1, Kx 7 _ _ _ h.hq⟩
theorem OutI.put {H H' : Ab} {io i2 i1 : Nat} {o : A7} {x x' q : AV} {k : Nat} {cells ec : List AV} {ids ids' qids : List Nat} {K : Ab → Option β} (h : OutI H io i2 i1 o x q k cells ids qids)
  (h1 : OwnSI 6 H' 6 F9 x' (k + 1) (cells ++ ec) ids') (h2 : ∀ i ∈ ids', i ∈ ids ∨ H.length ≤ i) (h3 : ∀ i, i < H.length → i ∉ ids → H'[i]? = H[i]?) (hk : ∀ H'', OutI H'' io i2 i1 o x' q (k + 1) (cells ++ ec) ids' qids → K H'' = r) :
  Ew 1 (.ptr io (0 + 1)) x' H' K = r := by
 obtain ⟨l1, l2, l3, l4⟩ := h.lt
 have hlf : Cv x' = some [x'] := by
  rcases h1 with ⟨_, h0, _⟩ | ⟨id, raw, is, _, rfl, _⟩
  omega
  rfl
 have ho : H'[io]? = some ⟨[.sc (.int .i64 o.fLast), x, q], true, true⟩ := by rw [h3 io l1 h.o1]; exact h.ho
 have hio : io < H'.length := (zac.1 ho).1
 rw [Ip 1 io (0 + 1) x' _ [x'] H' K ho hlf rfl (A9 rfl) rfl]
 have hni : io ∉ ids' := fun hm => by
  rcases h2 io hm with h' | h'
  exact h.o1 h'
  omega
 refine hk _ ⟨?_, ?_, ?_, h.qn, ?_, ?_, h.ne, h.ne1, h.ne2, hni, h.o2, ?_, h.z2, ?_, ?_⟩
 rw [zbf hio]
 rfl
 refine h1.frame fun i hi => ?_
 rw [za1 (fun (e : io = i) => hni (e ▸ hi))]
 refine C7 7 _ _ _ h.hq fun i hi => ?_
 rw [za1 (fun (e : io = i) => h.o2 (e ▸ hi)), h3 i (l4 i hi) (h.dj i hi)]
 obtain ⟨z2, hz, hl⟩ := h.hz
 exact ⟨z2, by rw [za1 h.ne, h3 i2 l2 h.z1]; exact hz, hl⟩
 rw [za1 (fun e => h.ne1 e.symm), h3 i1 l3 h.s1]
 exact h.src
 intro hm
 rcases h2 i2 hm with h' | h'
 exact h.z1 h'
 omega
 intro hm
 rcases h2 i1 hm with h' | h'
 exact h.s1 h'
 omega
 intro i hi hm
 rcases h2 i hm with h' | h'
 exact h.dj i hi h'
 have := l4 i hi
 omega
theorem OutI.fin {H : Ab} {io i2 i1 : Nat} {o : A7} {x q : AV} {ids qids : List Nat} (h : OutI H io i2 i1 o x q o.fFl.length (o.fFl.map Aq).flatten ids qids) :
  (Ct true 3 (.ptr io 0) H fun t => Ew 3 (.ptr i2 0) t H fun H => Ct true 3 (.ptr i2 0) H fun r0 => Ba Ar E0.tp 27 H r0) = some (.agg (Bf o)) := by
 obtain ⟨l1, l2, l3, l4⟩ := h.lt
 obtain ⟨z2, hz, hzl⟩ := h.hz
 have hx : Ap x = true := by
  rcases h.hs with ⟨rfl, _⟩ | ⟨id, raw, is, _, rfl, _⟩ <;> rfl
 have hq : Ap q = true := by
  have := h.hq
  cases q with
  | sc v => cases this
  | nl => rfl
  | sl => rfl
  | agg cs =>
   rw [E4] at this
   simp only [zaa] at this
   obtain ⟨_, _, _, _, h3⟩ := this
   cases h3
  | tup cs =>
   rw [Gb] at this
   simp only [zaa] at this
   obtain ⟨_, _, _, _, h3⟩ := this
   cases h3
  | _ => simp [B4] at this
 refine Ks (ds := [si o.fLast, x, q]) h.ho (A9 rfl) rfl ?_
 have hc : Cv (.agg [si o.fLast, x, q]) = some [si o.fLast, x, q] := by
  show (if (true && (Ap x && (Ap q && true))) = true then _ else none) = _
  rw [hx, hq]
  rfl
 rw [Ip 3 i2 0 _ ⟨z2, true, true⟩ [.sc (.int .i64 o.fLast), x, q] H _ hz hc rfl (by show 0 + 3 ≤ z2.length; omega) rfl]
 have hs : Cl z2 0 [si o.fLast, x, q] = [si o.fLast, x, q] := by
  unfold Cl
  rw [zbM, zah, zbe (by rw [hzl]; exact zak _), zan]
 simp only [hs]
 refine Ks (ds := [.sc (.int .i64 o.fLast), x, q]) (cs := [.sc (.int .i64 o.fLast), x, q]) (by rw [zbf l2]) (A9 rfl) rfl ?_
 have e1 := (h.hs.frame (H' := H.set i2 ⟨[.sc (.int .i64 o.fLast), x, q], true, true⟩) fun i hi => by rw [za1 (fun (e : i2 = i) => h.z1 (e ▸ hi))]).res U4
 have e2 := C7 (H' := H.set i2 ⟨[.sc (.int .i64 o.fLast), x, q], true, true⟩) 7 _ _ _ h.hq fun i hi => by rw [za1 (fun (e : i2 = i) => h.z2 (e ▸ hi))]
 obtain ⟨i, hi, hcy⟩ := AeJ
 rw [Ba, E4, hi, zab, hcy]
 simp only [Rq, Cg, I8, e1, e2, zab, zah, zan]
 rw [if_pos]
 rfl
 rw [zaP]
 exact ⟨h.hs.nodup, h.qn, fun a ha b hb e => h.dj b hb (e ▸ ha)⟩
def Oc (o : A7) : Prop := (o.fFl.length ≤ 1048576 ∧ ∀ x ∈ o.fFl, x.fM.fBody.size ≤ 1048576) ∧ (o.fQ.length ≤ 1048576 ∧ ∀ x ∈ o.fQ, x.fBody.size ≤ 1048576)
theorem Sn (n : Nat) (hn : 1048576 < n) (o : A7) (hs : Oc o) (io i2 i1 : Nat) (q : AV) (qids : List Nat) : ∀ (t pre : List Ad) (m : Nat) (x : AV) (H : Ab) (ids : List Nat), o.fFl = pre ++ t → t.length < m → OutI H io i2 i1 o x q pre.length (pre.map Aq).flatten ids qids →
  Pu (PR (n + 3) AV) (n + 3) (fun x H => Ba Ar E0.tp 27 H x) m (.ptr i1 0) (.ptr i2 0) (.ptr io 0) (si pre.length) H = some (.agg (Bf o))
 | [], pre, m + 1, x, H, ids, he, hm, hi => by
  rw [zan] at he
  show (PR (n + 3) AV).fadr _ _ _ = _
  simp only [B3, Bm, B7, Bh, A2, Bs]
  refine Ah (Bl (c := Ai Aq o.fFl) hi.src (A9 rfl) rfl (Dq ?_))
  rw [Ep, Ea, if_neg (by rw [he]; simp)]
  subst he
  exact hi.fin
 | y :: t, pre, m + 1, x, H, ids, he, hm, hi => by
  have hlt : pre.length < o.fFl.length := by rw [he]; simp
  have hy : y.fM.fBody.size ≤ 1048576 := hs.1.2 y (by rw [he]; simp)
  have hlen := hs.1.1
  show (PR (n + 3) AV).fadr _ _ _ = _
  simp only [B3, Bm, B7, Bh, A2, Bs, Ca, Bx, Bv, C6]
  refine Ah (Bl (c := Ai Aq o.fFl) hi.src (A9 rfl) rfl (Dq ?_))
  rw [Ep, Ea, if_pos (by simpa using hlt)]
  refine Ah (Bl (c := x) hi.ho (A9 rfl) rfl (Ah (Bl (c := Ai Aq o.fFl) hi.src (A9 rfl) rfl (Ag3 A5 (by decide) he (H9 (Mb (c := si y.fId) rfl (Ah (Bl (c := Ai Aq o.fFl) hi.src (A9 rfl) rfl (Ag3 A5 (by decide) he (H9 (Kg (ds := Aj y.fM) (A9 rfl) rfl (Ah (Bl (c := Ai Aq o.fFl) hi.src (A9 rfl) rfl (Ag3 A5 (by decide) he (H9 (Mb (c := si y.fSt) rfl ?_))))))))))))))))
  have hst := fun K h => Qn (β := AV) (n := n + 3) (X0 := []) (f := y) (K := K) (r := some (.agg (Bf o))) hi.hs rfl (Bq (Gi _ (Ff _)) D1) (Q9 (n + 2) y.fM hy) Nw (by omega) h
  simp only [zan] at hst
  refine hst _ fun x' H' ids' h1 h2 h3 h4 => Ah (hi.put h1 h2 h3 fun H'' hi' => ?_)
  rw [Fl _ _ (by omega)]
  have ih := Sn n hn o hs io i2 i1 q qids t (pre ++ [y]) m x' H'' ids' (by rw [he]; simp) (by simpa using hm) (by
   rw [zag, zao, za5, zax]
   simpa using hi')
  rw [zag, zao] at ih
  exact ih
theorem Lr (n : Nat) (hn : 1048576 < n) (o : A7) (hs : Oc o) (io i2 i1 : Nat) (q : AV) (qids : List Nat) : ∀ (t pre : List Ad) (m : Nat) (x : AV) (H : Ab) (ids : List Nat), o.fFl = pre ++ t → t.length < m → OutI H io i2 i1 o x q pre.length (pre.map Aq).flatten ids qids →
  Pt (PR (n + 3) AV) (n + 3) (fun x H => Ba Ar E0.tp 27 H x) m (.ptr i2 0) (.ptr io 0) (Ai Aq o.fFl) (si o.fFl.length) (si pre.length) H = some (.agg (Bf o))
 | [], pre, m + 1, x, H, ids, he, hm, hi => by
  rw [zan] at he
  show (PR (n + 3) AV).bin _ _ _ _ = _
  simp only [B3, Bm, B7, Bh, A2, Bs]
  rw [Ep, Ea, if_neg (by rw [he]; simp)]
  subst he
  exact hi.fin
 | y :: t, pre, m + 1, x, H, ids, he, hm, hi => by
  have hlt : pre.length < o.fFl.length := by rw [he]; simp
  have hy : y.fM.fBody.size ≤ 1048576 := hs.1.2 y (by rw [he]; simp)
  have hlen := hs.1.1
  obtain ⟨l1, l2, l3, l4⟩ := hi.lt
  show (PR (n + 3) AV).bin _ _ _ _ = _
  simp only [B3, Bm, B7, Bh, A2, Bs, Ca, Bx, Bv, C6, C2]
  rw [Ep, Ea, if_pos (by simpa using hlt)]
  refine Ag3 A5 (by decide) he (Kg (ds := Aq y) (A9 rfl) rfl (Vs rfl (A5 _) (On (Du _)) fun i5 h5 => Ah (Bl (c := x) (Jw hi.ho _) (A9 rfl) rfl (Ah (Bl (c := si y.fId) h5 (A9 rfl) rfl (Ah (Ks (ds := Aj y.fM) h5 (A9 rfl) rfl (Ah (Bl (c := si y.fSt) h5 (A9 rfl) rfl (Qn (β := AV) (n := n + 3) (X0 := [⟨Aq y, true, true⟩]) (f := y) (r := some (.agg (Bf o))) hi.hs rfl (Bq (Gi _ (Ff _)) D1) (Ro (n + 1) (by omega) y.fM hy) Nw (by omega) fun x' H' ids' h1 h2 h3 h4 => Ah (hi.put h1 h2 h3 fun H'' hi' => ?_)))))))))))
  rw [Fl _ _ (by omega)]
  have ih := Lr n hn o hs io i2 i1 q qids t (pre ++ [y]) m x' H'' ids' (by rw [he]; simp) (by simpa using hm) (by
   rw [zag, zao, za5, zax]
   simpa using hi')
  rw [zag, zao] at ih
  exact ih
theorem Ae5 (o : A7) (A : AV × List Hf) (hA : Bn Ar E0.tp 2 25 (Ai Aj o.fQ) = A) : OutI (([⟨Bf o, true, true⟩, ⟨Cn, true, true⟩] ++ A.2 ++ [⟨Cn, true, true⟩] : Ab).set (2 + A.2.length) ⟨[.sc (.int .i64 o.fLast), .nl, A.1], true, true⟩) (2 + A.2.length) 1 0 o .nl A.1 0 [] [] (zbk 2 A.2.length) := by
 have hlen : ([⟨Bf o, true, true⟩, ⟨Cn, true, true⟩] ++ A.2 : Ab).length = 2 + A.2.length := by simp; omega
 have e : ([⟨Bf o, true, true⟩, ⟨Cn, true, true⟩] ++ A.2 ++ [⟨Cn, true, true⟩] : Ab).set (2 + A.2.length) ⟨[si o.fLast, .nl, A.1], true, true⟩ = [⟨Bf o, true, true⟩, ⟨Cn, true, true⟩] ++ A.2 ++ [⟨[si o.fLast, .nl, A.1], true, true⟩] := by
  rw [← hlen]
  exact Zy _ _ _ []
 rw [e]
 refine ⟨?_, OwnSI.nil _ _ _ _, ?_, zbb, ⟨Cn, rfl, rfl⟩, rfl, by omega, by omega, by decide, by simp, ?_, by simp, ?_, by simp, by simp⟩
 rw [← hlen]
 exact Kt _ _ []
 rw [← hA]
 refine Gt 7 _ _ 2 (Gs (d := 6) Ec K2 (Io 4) o.fQ) ?_
 rw [hA]
 exact Og [(⟨Bf o, true, true⟩ : Hf), ⟨Cn, true, true⟩] A.2 _
 rw [zaQ]; omega
 rw [zaQ]; omega
theorem Ae6 (o : A7) (A : AV × List Hf) (hA : Bn Ar E0.tp 3 25 (Ai Aj o.fQ) = A) : OutI (([⟨Bf o, true, true⟩, ⟨Cn, true, true⟩, ⟨Cn, true, true⟩] ++ A.2 : Ab).set 2 ⟨[.sc (.int .i64 o.fLast), .nl, A.1], true, true⟩) 2 1 0 o .nl A.1 0 [] [] (zbk 3 A.2.length) := by
 refine ⟨rfl, OwnSI.nil _ _ _ _, ?_, zbb, ⟨Cn, rfl, rfl⟩, rfl, by decide, by decide, by decide, by simp, ?_, by simp, ?_, by simp, by simp⟩
 rw [← hA]
 refine Gt 7 _ _ 3 (Gs (d := 6) Ec K2 (Io 4) o.fQ) ?_
 rw [hA]
 exact Jt [(⟨Bf o, true, true⟩ : Hf), ⟨Cn, true, true⟩, (⟨[si o.fLast, .nl, A.1], true, true⟩ : Hf)] A.2
 rw [zaQ]; omega
 rw [zaQ]; omega
theorem M9 (N : Nat) (o : A7) : Ap (Bn Ar E0.tp N 25 (Ai Aj o.fQ)).1 = true := rfl
theorem Sm (n : Nat) (hn : 1048576 < n) (o : A7) (hs : Oc o) : Cs E0 (n + 4) 27 64 [.agg (Bf o)] = some (.agg (Bf o)) := by
 rw [Bb, AhI, f64]
 simp only [C8, C2, B3, Bm, Aaa, Bx, Bs, L8]
 rw [Ny _ _ _ (H4 o)]
 simp only [zay, zah, zav, zaw]
 have hz : ([⟨[i0, .nl, .nl], true, true⟩] : Ab) = [⟨Cn, true, true⟩] := rfl
 rw [hz]
 have hH : ([⟨Bf o, true, true⟩] ++ [⟨Cn, true, true⟩] : Ab)[0]? = some ⟨Bf o, true, true⟩ := rfl
 refine Ah (Bl (c := si o.fLast) hH (A9 rfl) rfl (Ah (Bl (c := Ai Aj o.fQ) hH (A9 rfl) rfl (O5 ?_ ?_))))
 rw [F5 (vs := [Ai Aj o.fQ]) rfl (Bq (Ez _ _ _) D1) (Ox n hn o.fQ hs.2.1 hs.2.2)]
 have hl := M9 2 o
 generalize hA : Bn Ar E0.tp 2 25 (Ai Aj o.fQ) = A at hl
 have hA' : Bn Ar E0.tp ([⟨Bf o, true, true⟩] ++ [⟨Cn, true, true⟩] : Ab).length 25 (Ai Aj o.fQ) = A := hA
 rw [hA']
 have hc1 : Cv A.1 = some [A.1] := by
  generalize A.1 = y at hl
  cases y <;> first | (simp [Ap] at hl; done) | (simp only [Cv, hl, if_true]) | rfl
 refine Oe (cs := [.sc (.int .i64 o.fLast), .nl, A.1]) (by simp only [Fe, hc1]; rfl) ?_
 have hlen : ([⟨Bf o, true, true⟩] ++ [⟨Cn, true, true⟩] ++ A.2 : Ab).length = 2 + A.2.length := by simp; omega
 have hg : ([⟨Bf o, true, true⟩] ++ [⟨Cn, true, true⟩] ++ A.2 ++ [⟨Cn, true, true⟩] : Ab)[2 + A.2.length]? = some ⟨Cn, true, true⟩ := by
  rw [← hlen]
  exact Kt _ _ []
 have hc : Cv (.agg [si o.fLast, .nl, A.1]) = some [si o.fLast, .nl, A.1] := by
  show (if (true && (true && (Ap A.1 && true))) = true then _ else none) = _
  rw [hl]
  rfl
 rw [hlen, Ip 3 (2 + A.2.length) 0 _ ⟨Cn, true, true⟩ [.sc (.int .i64 o.fLast), .nl, A.1] _ _ hg hc rfl (A9 rfl) rfl]
 exact Sn n hn o hs (2 + A.2.length) 1 0 A.1 _ o.fFl [] (n + 3) .nl _ [] rfl (by have := hs.1.1; omega) (Ae5 o A hA)
 rw [F5 (vs := [Ai Aj o.fQ]) rfl (Bq (Ez _ _ _) D1) (Ox n hn o.fQ hs.2.1 hs.2.2)]
 have hl := M9 3 o
 generalize hA : Bn Ar E0.tp 3 25 (Ai Aj o.fQ) = A at hl
 have hA' : Bn Ar E0.tp ([⟨Bf o, true, true⟩] ++ [⟨Cn, true, true⟩] ++ [⟨Cn, true, true⟩] : Ab).length 25 (Ai Aj o.fQ) = A := hA
 rw [hA']
 have hc1 : Cv A.1 = some [A.1] := by
  generalize A.1 = y at hl
  cases y <;> first | (simp [Ap] at hl; done) | (simp only [Cv, hl, if_true]) | rfl
 refine Oe (cs := [.sc (.int .i64 o.fLast), .nl, A.1]) (by simp only [Fe, hc1]; rfl) ?_
 have hc : Cv (.agg [si o.fLast, .nl, A.1]) = some [si o.fLast, .nl, A.1] := by
  show (if (true && (true && (Ap A.1 && true))) = true then _ else none) = _
  rw [hl]
  rfl
 rw [show ([⟨Bf o, true, true⟩] ++ [⟨Cn, true, true⟩] : Ab).length = 2 from rfl]
 rw [Ip 3 2 0 _ ⟨Cn, true, true⟩ [.sc (.int .i64 o.fLast), .nl, A.1] _ _ rfl hc rfl (A9 rfl) rfl]
 exact Sn n hn o hs 2 1 0 A.1 _ o.fFl [] (n + 3) .nl _ [] rfl (by have := hs.1.1; omega) (Ae6 o A hA)
theorem Wk (n : Nat) (hn : 1048576 < n) (o : A7) (hs : Oc o) : Cs E0 (n + 4) 27 62 [.agg (Bf o)] = some (.agg (Bf o)) := by
 rw [Bb, AhH, f62]
 simp only [C8, C2, B3, Bm, Aaa, Bx, Bs, B7, L8]
 rw [Ny _ _ _ (H4 o)]
 simp only [zay, zah, zav, zaw]
 have hz : ([⟨[i0, .nl, .nl], true, true⟩] : Ab) = [⟨Cn, true, true⟩] := rfl
 rw [hz]
 have hH : ([⟨Bf o, true, true⟩] ++ [⟨Cn, true, true⟩] : Ab)[0]? = some ⟨Bf o, true, true⟩ := rfl
 refine Ah (Bl (c := si o.fLast) hH (A9 rfl) rfl (Ah (Bl (c := Ai Aj o.fQ) hH (A9 rfl) rfl (O5 ?_ ?_))))
 rw [F5 (vs := [Ai Aj o.fQ]) rfl (Bq (Ez _ _ _) D1) (Pq n hn o.fQ hs.2.1 hs.2.2)]
 have hl := M9 2 o
 generalize hA : Bn Ar E0.tp 2 25 (Ai Aj o.fQ) = A at hl
 have hA' : Bn Ar E0.tp ([⟨Bf o, true, true⟩] ++ [⟨Cn, true, true⟩] : Ab).length 25 (Ai Aj o.fQ) = A := hA
 rw [hA']
 have hc1 : Cv A.1 = some [A.1] := by
  generalize A.1 = y at hl
  cases y <;> first | (simp [Ap] at hl; done) | (simp only [Cv, hl, if_true]) | rfl
 refine Oe (cs := [.sc (.int .i64 o.fLast), .nl, A.1]) (by simp only [Fe, hc1]; rfl) ?_
 have hlen : ([⟨Bf o, true, true⟩] ++ [⟨Cn, true, true⟩] ++ A.2 : Ab).length = 2 + A.2.length := by simp; omega
 have hg : ([⟨Bf o, true, true⟩] ++ [⟨Cn, true, true⟩] ++ A.2 ++ [⟨Cn, true, true⟩] : Ab)[2 + A.2.length]? = some ⟨Cn, true, true⟩ := by
  rw [← hlen]
  exact Kt _ _ []
 have hc : Cv (.agg [si o.fLast, .nl, A.1]) = some [si o.fLast, .nl, A.1] := by
  show (if (true && (true && (Ap A.1 && true))) = true then _ else none) = _
  rw [hl]
  rfl
 rw [hlen, Ip 3 (2 + A.2.length) 0 _ ⟨Cn, true, true⟩ [.sc (.int .i64 o.fLast), .nl, A.1] _ _ hg hc rfl (A9 rfl) rfl]
 have hI := Ae5 o A hA
 exact Ah (Bl (c := Ai Aq o.fFl) hI.src (A9 rfl) rfl (Dq (Lr n hn o hs (2 + A.2.length) 1 0 A.1 _ o.fFl [] (n + 3) .nl _ [] rfl (by have := hs.1.1; omega) hI)))
 rw [F5 (vs := [Ai Aj o.fQ]) rfl (Bq (Ez _ _ _) D1) (Pq n hn o.fQ hs.2.1 hs.2.2)]
 have hl := M9 3 o
 generalize hA : Bn Ar E0.tp 3 25 (Ai Aj o.fQ) = A at hl
 have hA' : Bn Ar E0.tp ([⟨Bf o, true, true⟩] ++ [⟨Cn, true, true⟩] ++ [⟨Cn, true, true⟩] : Ab).length 25 (Ai Aj o.fQ) = A := hA
 rw [hA']
 have hc1 : Cv A.1 = some [A.1] := by
  generalize A.1 = y at hl
  cases y <;> first | (simp [Ap] at hl; done) | (simp only [Cv, hl, if_true]) | rfl
 refine Oe (cs := [.sc (.int .i64 o.fLast), .nl, A.1]) (by simp only [Fe, hc1]; rfl) ?_
 have hc : Cv (.agg [si o.fLast, .nl, A.1]) = some [si o.fLast, .nl, A.1] := by
  show (if (true && (true && (Ap A.1 && true))) = true then _ else none) = _
  rw [hl]
  rfl
 rw [show ([⟨Bf o, true, true⟩] ++ [⟨Cn, true, true⟩] : Ab).length = 2 from rfl]
 rw [Ip 3 2 0 _ ⟨Cn, true, true⟩ [.sc (.int .i64 o.fLast), .nl, A.1] _ _ rfl hc rfl (A9 rfl) rfl]
 have hI := Ae6 o A hA
 exact Ah (Bl (c := Ai Aq o.fFl) hI.src (A9 rfl) rfl (Dq (Lr n hn o hs 2 1 0 A.1 _ o.fFl [] (n + 3) .nl _ [] rfl (by have := hs.1.1; omega) hI)))
end
section
open Go
variable {α : Type}
theorem Agy {wt : α → Nat} (sm : α → Prop) (hs : ∀ x, wt x ≤ 1048576 → sm x) (l : List α) (h : Fm wt l ≤ 1048576) : l.length ≤ 1048576 ∧ ∀ y ∈ l, sm y := by
 have h1 := Mc wt l
 refine ⟨by omega, fun y hy => hs y ?_⟩
 have h2 := Nj (wt := wt) hy
 omega
def U1 (x : Cd) : Prop := x.fBody.size ≤ 1048576 ∧ True
theorem Qa (x : Cd) (h : Bo x ≤ 1048576) : U1 x := by
 have h0 := h
 unfold Bo at h0
 exact ⟨by omega, trivial⟩
def Te (x : Ad) : Prop := x.fM.fBody.size ≤ 1048576 ∧ True
theorem Acd (x : Ad) (h : As x ≤ 1048576) : Te x := by
 have h0 := h
 unfold As Bo at h0
 exact ⟨by omega, trivial⟩
def AjN (x : A7) : Prop := (x.fFl.length ≤ 1048576 ∧ ∀ y ∈ x.fFl, Te y) ∧ (x.fQ.length ≤ 1048576 ∧ ∀ y ∈ x.fQ, U1 y) ∧ True
theorem Qb (x : A7) (h : Fj x ≤ 1048576) : AjN x := by
 have e0 := Mc As x.fFl
 have e1 := Mc Bo x.fQ
 have h0 := h
 unfold Fj at h0
 exact ⟨Agy Te Acd _ (by omega), Agy U1 Qa _ (by omega), trivial⟩
end
section
open Go
def AjC : Cd := ⟨⟨#[]⟩, ⟨#[]⟩, 0, false⟩
def Au (l : List Cd) : Cd := l.headD AjC
def AgS (l : List Cd) : Bool := !l.isEmpty
theorem X2 {ty : Nat} {H : Ab} {ts : List Nat} {raw cells : List AV} {ids : List Nat} (hts : E0.tp ty = some ts) (h : Cg (B4 Ar E0.tp H 7) ts raw = some (cells, ids)) (hn : ids.Nodup) : Ba Ar E0.tp ty H (.tup raw) = some (.tup cells) := by
 rw [Ba, Gb, hts, zab, h, zab, zab, if_pos hn]
theorem AjH {H : Ab} {t0 t1 t2 : Nat} {x0 x1 : AV} {v : Value} {a b : AV × List Nat} (h0 : B4 Ar E0.tp H 7 t0 x0 = some a) (h1 : B4 Ar E0.tp H 7 t1 x1 = some b) : Cg (B4 Ar E0.tp H 7) [t0, t1, t2] [x0, x1, .sc v] = some ([a.1, b.1, .sc v], a.2 ++ b.2) := by
 simp only [Cg, h0, h1, I8, zab, zan]
theorem Aiu (H : Ab) : B4 Ar E0.tp H 7 33 (.agg Hs) = some (.agg (Aj AjC), []) := by
 obtain ⟨i, hi, hc⟩ := Nw
 rw [E4, hi, zab, hc]
 rfl
theorem Ae7 {H : Ab} {raw cells : List AV} {ids : List Nat} (h : Cg (B4 Ar E0.tp H 6) Hg raw = some (cells, ids)) : B4 Ar E0.tp H 7 33 (.agg raw) = some (.agg cells, ids) := by
 obtain ⟨i, hi, hc⟩ := Nw
 rw [E4, hi, zab, hc, h]
 rfl
theorem Ace (n : Nat) (hn : 1048576 < n) (x0 : List Cd) (k0 : x0.length ≤ 9223372036854775807 ∧ ∀ z ∈ x0, Cp z) (b0 : Fm Bo x0 ≤ 1048576) : Cs E0 (n + 4) 100 129 [Ai Aj x0] = some (.tup [Ai Aj x0.tail, .agg (Aj (Au x0)), .sc (.bool (AgS x0))]) := by
 have hlen : x0.length ≤ 1048576 := by have := Mc Bo x0; omega
 have hs : ∀ x ∈ x0, x.fBody.size ≤ 1048576 := by
  intro x hx
  have h1 := Mc Bo x0
  have h2 := Nj (wt := Bo) hx
  have h3 : Bo x = x.fTopic.size + (x.fBody.size + 0) := rfl
  omega
 rw [Bb, Afw, f129]
 simp only [C2, B7, Bh, A2, Bx, Bs, Bm, Dk, Ca, L8, zay, zah]
 have hz : ([⟨[sE, .nl, i0, bF], true, true⟩] : Ab) = [⟨Hs, true, true⟩] := rfl
 rw [hz]
 refine Dq ?_
 cases x0 with
 | nil =>
  refine A4 (v := bT) (fun k => rfl) (Fn rfl (Oe (cs := Hs) rfl ?_))
  rw [Ip 4 0 0 _ ⟨Hs, true, true⟩ Hs _ _ rfl rfl rfl (by decide) rfl]
  exact Ks (ds := Hs) (cs := Hs) rfl (zak _) rfl (X2 rfl (AjH (a := (.ro 0 [], [])) rfl (Aiu _)) zb3)
 | cons m l =>
  have hm : m.fBody.size ≤ 1048576 := hs m za8
  refine A4 (v := bF) (fun k => ?_) ?_
  show k (.sc (.bool (((m :: l).length : Int) == 0))) = _
  have e : (((m :: l).length : Int) == 0) = false := by
   rw [beq_eq_false_iff_ne]
   intro h
   have : (m :: l).length = l.length + 1 := rfl
   omega
  rw [e]
  refine Fy rfl ?_
  have hsl := Zz Ec (m :: l) 1 (by simp) (β := AV)
  have hsl' : ∀ k : AV → Option AV, Jc 4 (Ai Aj (m :: l)) (some (si 1)) none k = k (Ai Aj l) := fun k => hsl k
  rw [hsl']
  have hel := fun k => Nr (β := AV) Ec (by decide) [] m l k
  simp only [zah, zay, zaY] at hel
  rw [hel, Sp 4 _ _ _ _ (Ec m)]
  rw [F5 (vs := [Ai Aj l]) rfl (Bq (Ez _ _ _) D1) (Ox n hn l (by simp at hlen; omega) fun x hx => hs x (zat _ hx))]
  rw [F5 (vs := [.agg (Aj m)]) rfl (Bq (Gi _ (Ff m)) D1) (Q9 (n + 2) m hm)]
  obtain ⟨i, hi, hc⟩ := Nw
  rw [H5, hi, zaC, hc]
  simp only
  generalize hA : Bn Ar E0.tp ([⟨Hs, true, true⟩] : Ab).length 25 (Ai Aj l) = A
  generalize hB : B5 Ar E0.tp ([⟨Hs, true, true⟩] ++ A.2 : Ab).length Hg (Aj m) = B
  have hBl : B.1.length = 4 := by rw [← hB, M7]; rfl
  have hBc : Cv (.agg B.1) = some B.1 := by
   show (if _ then _ else none) = _
   rw [if_pos (by rw [← hB]; exact N9 _ _ _ (Ff m))]
  have hsp : Cl Hs 0 B.1 = B.1 := by
   unfold Cl
   rw [zbM, zah, zbe (by rw [hBl]; decide), zan]
  rw [Ip 4 0 0 _ ⟨Hs, true, true⟩ B.1 _ _ rfl hBc hBl (by decide) rfl]
  simp only [hsp]
  have hH : ([⟨Hs, true, true⟩] ++ A.2 ++ B.2 : Ab).set 0 ⟨B.1, true, true⟩ = ⟨B.1, true, true⟩ :: (A.2 ++ B.2) := by simp
  rw [hH]
  refine Ks (ds := B.1) (cs := B.1) rfl (by omega) (by rw [zaA, ← hBl, za0]) ?_
  have hA1 : A = Bn Ar E0.tp 1 25 (Ai Aj l) := hA.symm
  have hNB : ([⟨Hs, true, true⟩] ++ A.2 : Ab).length = 1 + A.2.length := by simp; omega
  rw [hNB] at hB
  have o1 : B4 Ar E0.tp (⟨B.1, true, true⟩ :: (A.2 ++ B.2)) 7 25 A.1 = some (Ai Aj l, zbk 1 A.2.length) := by
   rw [hA1]
   refine Gt 7 _ _ 1 (Gs (d := 6) Ec K2 (Io 4) l) ?_
   have := Og [⟨B.1, true, true⟩] (Bn Ar E0.tp 1 25 (Ai Aj l)).2 B.2
   exact this
  have o2 : Cg (B4 Ar E0.tp (⟨B.1, true, true⟩ :: (A.2 ++ B.2)) 6) Hg B.1 = some (Aj m, zbk (1 + A.2.length) B.2.length) := by
   rw [← hB]
   refine Lg (fun ty t N h h' _ => Gt 6 ty t N h h') Hg (Aj m) (1 + A.2.length) (Io 4 m) ?_ (Fx _ _ _)
   have := Jt (⟨B.1, true, true⟩ :: A.2) B.2
   rw [zav, zbK] at this
   rw [hB]
   exact this
  refine X2 rfl (AjH o1 (Ae7 o2)) ?_
  have := List.range'_append (s := 1) (m := A.2.length) (n := B.2.length) (step := 1)
  rw [zbt] at this
  rw [this]
  exact zbb
theorem Zx (x0 : List Cd) (b0 : Fm Bo x0 ≤ 1048576) : Bo (Au x0) ≤ 1048576 ∧ U1 (Au x0) := by
 have h : Bo (Au x0) ≤ 1048576 := by
  cases x0 with
  | nil => decide
  | cons m l =>
   have : Fm Bo (m :: l) = 1 + Bo m + Fm Bo l := rfl
   show Bo m ≤ _
   omega
 exact ⟨h, Qa _ h⟩
end
section
open Go
def Ho : Az := ⟨0, false, 0, false, 0, ⟨#[]⟩, ⟨#[]⟩, ⟨#[]⟩, 0, false, 0, false, ⟨#[]⟩, ⟨#[]⟩, 0, false, false, ⟨#[]⟩, false, ⟨#[]⟩, 0, false, [], [], []⟩
end
end Go.Proofs.YtdofipeaomgbbaaGreatDoor.Abs
set_option maxHeartbeats 1600000
namespace Go.Proofs.YtdofipeaomgbbaaGreatDoor.Abs
open _root_.Option renaming bind_eq_some_iff → zaa, bind_some → zab, getD_some → zaC
open _root_.List renaming getElem?_eq_some_iff → zac, replicate → zad, getElem?_append_right → zae, getElem?_append_left → zaf, length_append → zag, nil_append → zah, append_assoc → zaj, append_nil → zan, length_singleton → zao, mem_append_right → zap, cons_append → zar, mem_append_left → zas, mem_cons_of_mem → zat, map_cons → zau, length_cons → zav, flatten_append → zax, length_nil → zay, take_length → za0, getElem?_set_ne → za1, mem_cons → za2, all_eq_true → za3, map_append → za5, length_take → za6, mem_cons_self → za8, drop_zero → zaA, replicate_append_replicate → zaB, flatten_cons → zaE, length_drop → zaF, nodup_cons → zaH, mem_append → zaJ, nodup_append → zaP, mem_range'_1 → zaQ, drop_drop → zaV, nodup_range' → zbb, drop_of_length_le → zbe, getElem?_set_self → zbf, any_cons → zbg, length_set → zbh, all_cons → zbj, range' → zbk, map_nil → zbs, take_of_length_le → zbv, nodup_nil → zb3, headD_cons → zbB, length_map → zbC, tail_cons → zbG, drop_take → zbH, take_take → zbI, take_zero → zbM
open _root_.Bool renaming false_eq_true → zal, eq_iff_iff → zbi, false_or → zbq
open _root_.Nat renaming le_refl → zak, zero_add → zaw, le_trans → zaz, mul_le_mul_right → za7, min_eq_left → zaK, add_mul → zaM, zero_le → zaN, sub_self → zaO, add_assoc → zaS, add_zero → zbd, one_mul → zbt, add_comm → zbK, succ_mul → zbN
open _root_.Int renaming natCast_zero → zaY
section
open Go
def Av (m : Cd) (i : Int) (d : Bool) : Az := ⟨3, d, m.fQos, m.fRetain, i, m.fTopic, m.fBody, ⟨#[]⟩, 0, false, 0, false, ⟨#[]⟩, ⟨#[]⟩, 0, false, false, ⟨#[]⟩, false, ⟨#[]⟩, 0, false, [], [], []⟩
theorem Xx (n : Nat) (hn : 1048576 < n) (m : Cd) (i : Int) (d : Bool) (hs : m.fBody.size ≤ 1048576) : Cs E0 (n + 1) 41 130 [.agg (Aj m), .sc (.int .i64 i), .sc (.bool d)] = some (.agg (Bd (Av m i d))) := by
 rw [Bb, Afx, f130]
 refine G0 (G := (· = some (.agg (Bd (Av m i d))))) ?_
 try simp only [Qg, Qf]
 have s0 : Sep [] [] := Gz
 refine Ms s0 (F8 (Ff _)) fun i1 H s2 => Dc s2 fun i3 H s4 => Am (o' := 2) rfl (A0 (c := si m.fQos) s4 A1 rfl (Am (o' := 3) rfl (A0 (c := sb m.fRetain) s4 A1 rfl (Am (o' := 0) rfl (A0 (c := ss m.fTopic) s4 A1 rfl (Am (o' := 1) rfl (A0 (c := A3 m.fBody) s4 A1 rfl (AfL s4 (by omega) fun x5 H lx5 s6 => ?_))))))))
 refine Bk (cs := [si 3, sb d, si m.fQos, sb m.fRetain, si i, ss m.fTopic, x5, sE, i0, bF, i0, bF, sE, .nl, i0, bF, bF, sE, bF, .nl, i0, bF, .nl, .nl, .nl]) (Eu (z' := [si 3, bF, i0, bF, i0, sE, .nl, sE, i0, bF, i0, bF, sE, .nl, i0, bF, bF, sE, bF, .nl, i0, bF, .nl, .nl, .nl]) (Cw rfl) rfl (A9 rfl) rfl (Eu (z' := [si 3, sb d, i0, bF, i0, sE, .nl, sE, i0, bF, i0, bF, sE, .nl, i0, bF, bF, sE, bF, .nl, i0, bF, .nl, .nl, .nl]) (Cw rfl) rfl (A9 rfl) rfl (Eu (z' := [si 3, sb d, si m.fQos, bF, i0, sE, .nl, sE, i0, bF, i0, bF, sE, .nl, i0, bF, bF, sE, bF, .nl, i0, bF, .nl, .nl, .nl]) (Cw rfl) rfl (A9 rfl) rfl (Eu (z' := [si 3, sb d, si m.fQos, sb m.fRetain, i0, sE, .nl, sE, i0, bF, i0, bF, sE, .nl, i0, bF, bF, sE, bF, .nl, i0, bF, .nl, .nl, .nl]) (Cw rfl) rfl (A9 rfl) rfl (Eu (z' := [si 3, sb d, si m.fQos, sb m.fRetain, si i, sE, .nl, sE, i0, bF, i0, bF, sE, .nl, i0, bF, bF, sE, bF, .nl, i0, bF, .nl, .nl, .nl]) (Cw rfl) rfl (A9 rfl) rfl (Eu (z' := [si 3, sb d, si m.fQos, sb m.fRetain, si i, ss m.fTopic, .nl, sE, i0, bF, i0, bF, sE, .nl, i0, bF, bF, sE, bF, .nl, i0, bF, .nl, .nl, .nl]) (Cw rfl) rfl (A9 rfl) rfl (Eu (z' := [si 3, sb d, si m.fQos, sb m.fRetain, si i, ss m.fTopic, x5, sE, i0, bF, i0, bF, sE, .nl, i0, bF, bF, sE, bF, .nl, i0, bF, .nl, .nl, .nl]) (Cw lx5) rfl (A9 rfl) rfl (rfl)))))))) ?_
 refine Bg (cs' := [si 3, sb d, si m.fQos, sb m.fRetain, si i, ss m.fTopic, x5, sE, i0, bF, i0, bF, sE, .nl, i0, bF, bF, sE, bF, .nl, i0, bF, .nl, .nl, .nl]) s6 A1 (Ac (Aa rfl (Aa rfl (Aa rfl (Aa rfl (Aa rfl (Aa rfl (Aa lx5 rfl)))))))) rfl (A9 rfl) rfl fun H s7 => Ae s7 (.here) rfl (Dn (Nf s7 ⟨_, rfl, rfl⟩ (G6 (.own A1 (G6 (.nl (Mk (.nl (.sc (.sc (.nl (.nl (.nl .nil))))))))))) (G7 ⟨(At (Gq m.fBody) (by decide)), (G7 ⟨Dp, (Mi ⟨Dp, (K4 ⟨Dp, ⟨Dp, ⟨Dp, trivial⟩⟩⟩)⟩)⟩)⟩)) ?_)
 have e8 : Av m i d = (⟨3, d, m.fQos, m.fRetain, i, m.fTopic, m.fBody, ⟨#[]⟩, 0, false, 0, false, ⟨#[]⟩, ⟨#[]⟩, 0, false, false, ⟨#[]⟩, false, ⟨#[]⟩, 0, false, [], [], []⟩ : Az) := by
  clear s0 s2 s4 s6 s7
  first | assumption | (simp only [Av, if_true, if_false, zal]; first | done | rfl)
 ·rw [e8]
  first | done | rfl
theorem Aeq (n : Nat) (hn : 1048576 < n) (m : Cd) (i : Int) (d : Bool) (hs : m.fBody.size ≤ 1048576) : Cs E0 (n + 2) 41 43 [.agg (Aj m), .sc (.int .i64 i), .sc (.bool d)] = some (.agg (Bd (Av m i d))) := by
 rw [Bb, Ah3, f43]
 refine G0 (G := (· = some (.agg (Bd (Av m i d))))) ?_
 try simp only [Qg, Qf]
 have s0 : Sep [] [] := Gz
 refine Ms s0 (F8 (Ff _)) fun i1 H s2 => Dc s2 fun i3 H s4 => Am (o' := 2) rfl (A0 (c := si m.fQos) s4 A1 rfl (Am (o' := 3) rfl (A0 (c := sb m.fRetain) s4 A1 rfl (Am (o' := 0) rfl (A0 (c := ss m.fTopic) s4 A1 rfl (Am (o' := 1) rfl (A0 (c := A3 m.fBody) s4 A1 rfl (Bk (cs := [A3 m.fBody]) rfl (Bz s4 fun i5 H s6 => Aa3 s6 rfl (.sl (.here) rfl (.cons .ro .nil) .nil) (W2 n (by omega) m.fBody (by omega)) (Gq m.fBody) fun x7 H lx7 s8 => ?_)))))))))
 refine Bk (cs := [si 3, sb d, si m.fQos, sb m.fRetain, si i, ss m.fTopic, x7, sE, i0, bF, i0, bF, sE, .nl, i0, bF, bF, sE, bF, .nl, i0, bF, .nl, .nl, .nl]) (Eu (z' := [si 3, bF, i0, bF, i0, sE, .nl, sE, i0, bF, i0, bF, sE, .nl, i0, bF, bF, sE, bF, .nl, i0, bF, .nl, .nl, .nl]) (Cw rfl) rfl (A9 rfl) rfl (Eu (z' := [si 3, sb d, i0, bF, i0, sE, .nl, sE, i0, bF, i0, bF, sE, .nl, i0, bF, bF, sE, bF, .nl, i0, bF, .nl, .nl, .nl]) (Cw rfl) rfl (A9 rfl) rfl (Eu (z' := [si 3, sb d, si m.fQos, bF, i0, sE, .nl, sE, i0, bF, i0, bF, sE, .nl, i0, bF, bF, sE, bF, .nl, i0, bF, .nl, .nl, .nl]) (Cw rfl) rfl (A9 rfl) rfl (Eu (z' := [si 3, sb d, si m.fQos, sb m.fRetain, i0, sE, .nl, sE, i0, bF, i0, bF, sE, .nl, i0, bF, bF, sE, bF, .nl, i0, bF, .nl, .nl, .nl]) (Cw rfl) rfl (A9 rfl) rfl (Eu (z' := [si 3, sb d, si m.fQos, sb m.fRetain, si i, sE, .nl, sE, i0, bF, i0, bF, sE, .nl, i0, bF, bF, sE, bF, .nl, i0, bF, .nl, .nl, .nl]) (Cw rfl) rfl (A9 rfl) rfl (Eu (z' := [si 3, sb d, si m.fQos, sb m.fRetain, si i, ss m.fTopic, .nl, sE, i0, bF, i0, bF, sE, .nl, i0, bF, bF, sE, bF, .nl, i0, bF, .nl, .nl, .nl]) (Cw rfl) rfl (A9 rfl) rfl (Eu (z' := [si 3, sb d, si m.fQos, sb m.fRetain, si i, ss m.fTopic, x7, sE, i0, bF, i0, bF, sE, .nl, i0, bF, bF, sE, bF, .nl, i0, bF, .nl, .nl, .nl]) (Cw lx7) rfl (A9 rfl) rfl (rfl)))))))) ?_
 refine Bg (cs' := [si 3, sb d, si m.fQos, sb m.fRetain, si i, ss m.fTopic, x7, sE, i0, bF, i0, bF, sE, .nl, i0, bF, bF, sE, bF, .nl, i0, bF, .nl, .nl, .nl]) s8 Bu (Ac (Aa rfl (Aa rfl (Aa rfl (Aa rfl (Aa rfl (Aa rfl (Aa lx7 rfl)))))))) rfl (A9 rfl) rfl fun H s9 => Ae s9 (.here) rfl (Dn (Nf s9 ⟨_, rfl, rfl⟩ (G6 (.own A1 (G6 (.nl (Mk (.nl (.sc (.sc (.nl (.nl (.nl .nil))))))))))) (G7 ⟨(At (Gq m.fBody) (by decide)), (G7 ⟨Dp, (Mi ⟨Dp, (K4 ⟨Dp, ⟨Dp, ⟨Dp, trivial⟩⟩⟩)⟩)⟩)⟩)) ?_)
 have e10 : Av m i d = (⟨3, d, m.fQos, m.fRetain, i, m.fTopic, m.fBody, ⟨#[]⟩, 0, false, 0, false, ⟨#[]⟩, ⟨#[]⟩, 0, false, false, ⟨#[]⟩, false, ⟨#[]⟩, 0, false, [], [], []⟩ : Az) := by
  clear s0 s2 s4 s6 s8 s9
  first | assumption | (simp only [Av, if_true, if_false, zal]; first | done | rfl)
 ·rw [e10]
  first | done | rfl
theorem Aiv (m : Cd) (i : Int) (d : Bool) : Fw (Av m i d) = Bo m := by
 unfold Fw Bo Av
 show m.fTopic.size + (m.fBody.size + (0 + (0 + (0 + (0 + (0 + (0 + (0 + (0 + 0))))))))) = _
 simp
end
section
open Go
def nx (x : Int) : Int := x % 65535 + 1
def K0 (used : List Int) : Nat → Int → Int × Bool
 | 0, _ => (0, false)
 | k + 1, x => if used.contains (nx x) then K0 used k (nx x) else (nx x, true)
def orb : Nat → Int → List Int
 | 0, _ => []
 | k + 1, x => nx x :: orb k (nx x)
theorem AaD : ∀ (k : Nat) (x : Int), (orb k x).length = k
 | 0, _ => rfl
 | k + 1, x => by rw [orb, zav, AaD k]
theorem AaE : ∀ (k : Nat) (x y : Int), 0 ≤ x → y ∈ orb k x → ∃ i : Nat, i < k ∧ y = (x + i) % 65535 + 1
 | 0, _, _, _, h => by cases h
 | k + 1, x, y, h0, h => by
  rcases za2.1 h with rfl | h
  exact ⟨0, by omega, by unfold nx; simp⟩
  obtain ⟨i, hi, rfl⟩ := AaE k (nx x) y (by unfold nx; omega) h
  refine ⟨i + 1, by omega, ?_⟩
  unfold nx
  omega
theorem Up : ∀ (k : Nat) (x : Int), 0 ≤ x → k ≤ 65535 → (orb k x).Nodup
 | 0, _, _, _ => zb3
 | k + 1, x, h0, hk => by
  rw [orb, zaH]
  refine ⟨fun hm => ?_, Up k _ (by unfold nx; omega) (by omega)⟩
  obtain ⟨i, hi, e⟩ := AaE k (nx x) (nx x) (by unfold nx; omega) hm
  unfold nx at e
  omega
theorem U0 : ∀ (used : List Int) (k : Nat) (x : Int), (K0 used k x).2 = false → ∀ y ∈ orb k x, y ∈ used
 | used, 0, _, _, y, hy => by cases hy
 | used, k + 1, x, h, y, hy => by
  rw [K0] at h
  split at h
  rename_i hc
  rcases za2.1 hy with rfl | hy
  exact List.contains_iff_mem.1 hc
  exact U0 used k _ h y hy
  cases h
theorem Uz : ∀ (used : List Int) (k j : Nat) (x : Int), (K0 used k x).2 = true → K0 used (k + j) x = K0 used k x
 | used, 0, _, _, h => by cases h
 | used, k + 1, j, x, h => by
  rw [show k + 1 + j = (k + j) + 1 by omega, K0, K0]
  rw [K0] at h
  split
  rename_i hc
  rw [if_pos hc] at h
  exact Uz used k j _ h
  rfl
theorem Um : ∀ (l u : List Int), l.Nodup → (∀ y ∈ l, y ∈ u) → l.length ≤ u.length
 | [], u, _, _ => zaN _
 | x :: l, u, h, hs => by
  rw [zaH] at h
  have hx : x ∈ u := hs x za8
  have h1 := Um l (u.erase x) h.2 fun y hy => (List.mem_erase_of_ne (fun (e : y = x) => h.1 (e ▸ hy))).2 (hs y (zat _ hy))
  rw [List.length_erase_of_mem hx] at h1
  have := List.length_pos_of_mem hx
  rw [zav]
  omega
theorem Agw (used : List Int) (x : Int) (h0 : 0 ≤ x) : K0 used 65535 x = K0 used (min (used.length + 1) 65535) x := by
 by_cases h : used.length + 1 < 65535
 rw [zaK (by omega)]
 cases hs : (K0 used (used.length + 1) x).2
 exfalso
 have h1 := Um _ used (Up (used.length + 1) x h0 (by omega)) (U0 used _ x hs)
 rw [AaD] at h1
 omega
 have := Uz used (used.length + 1) (65535 - (used.length + 1)) x hs
 rw [show used.length + 1 + (65535 - (used.length + 1)) = 65535 by omega] at this
 exact this
 rw [Nat.min_eq_right (by omega)]
def Ch (last : Int) (used : List Int) : Int × Bool := if 0 ≤ last ∧ last ≤ 65535 then K0 used 65535 last else (0, false)
end
section
open Go
variable {β : Type} {n : Nat} {r : Option β}
end
section
open Go
theorem Uf (n : Nat) (u : List Int) (hu : u.length ≤ 1048576) (z : Int) (k : AV → Ab → Option AV) : ∀ (t pre : List Int) (m : Nat) (i : Int) (H : Ab), u = pre ++ t → i = ((pre.length : Nat) : Int) → t.length < m → L0 (PR n AV) n k m (Fz u) (.sc (.int .i64 z)) (.sc (.int .i64 i)) H = k (.sc (.bool (t.contains z))) H
 | [], pre, m + 1, i, H, he, hi, hm => by
  rw [zan] at he
  subst he
  rw [L0]
  simp only [B7, Bh, A2]
  refine Dq (A4 (v := .sc (.bool (decide (i < (u.length : Nat))))) (fun k => rfl) (Fy (by simp [hi]) ?_))
  rfl
 | y :: t, pre, m + 1, i, H, he, hi, hm => by
  have hlt : pre.length < u.length := by rw [he]; simp
  rw [L0]
  simp only [B7, Bh, A2, Ca, Bm]
  refine Dq (A4 (v := .sc (.bool (decide (i < (u.length : Nat))))) (fun k => rfl) (Fn (by simp [hi]; omega) ((show Gd (· = k (.sc (.bool ((y :: t).contains z))) H) _ from ?_))))
  refine AbU hi he (Aef (c := .sc (.int .i64 y)) rfl (Bp ?_))
  by_cases hy : y = z
  refine Ci (by simpa using hy) ?_
  show k _ H = k _ H
  simp [hy]
  refine Bt (by simpa using hy) (Gx (by omega) (by omega) ?_)
  have ih := Uf n u hu z k t (pre ++ [y]) m (i + 1) H (by rw [he]; simp) (by rw [hi]; simp) (by simpa using hm)
  refine ih.trans ?_
  have e : (y :: t).contains z = t.contains z := by
   rw [List.contains_cons]
   simp [Ne.symm hy]
  rw [e]
theorem Aj8 (n ty : Nat) (hn : 1048576 < n) (u : List Int) (hu : u.length ≤ 1048576) (z : Int) : Cs E0 (n + 1) ty 139 [Fz u, .sc (.int .i64 z)] = some (.sc (.bool (u.contains z))) := by
 rw [Bb, Af0, f139]
 exact Uf n u hu z _ u [] n 0 [] rfl rfl (by omega)
theorem AjE (x : Int) (h0 : 0 ≤ x) (h1 : x ≤ 65535) : nx x = if x + 1 > 65535 then 1 else x + 1 := by
 unfold nx
 split <;> omega
theorem Zr (n : Nat) (hn : 1048576 < n) (u : List Int) (hu : u.length ≤ 1048576) (k : AV → Ab → Option AV) (H : Ab) : ∀ (j m : Nat) (x c : Int), 0 ≤ c → c + j = min ((u.length : Int) + 1) 65535 → j < m → 0 ≤ x → x ≤ 65535 →
  Ko (PR (n + 1) AV) (n + 1) k m (Fz u) (.sc (.int .i64 x)) (.sc (.int .i64 c)) H = k (.tup [.sc (.int .i64 (K0 u j x).1), .sc (.bool (K0 u j x).2)]) H := by
 intro j
 induction j with
 | zero =>
  intro m x c h0 hc hm hx0 hx1
  obtain ⟨m, rfl⟩ : ∃ m', m = m' + 1 := ⟨m - 1, by omega⟩
  rw [Ko]
  simp only [B7, Bh, A2, B6, Pr.gT, Pr.gF, Pr.hT, Pr.hF, Pr.kT, Pr.kF, Ce]
  refine Dq (A4 (v := .sc (.bool (decide (c ≤ (u.length : Nat))))) (fun k => rfl) ?_)
  by_cases hl : c ≤ (u.length : Nat)
  refine An (by simpa using hl) (An (by simpa using hl) (A4 (v := .sc (.bool (decide (c < 65535)))) (fun k => rfl) (Q3 (by simpa using hl) (Fy (by simp; omega) ?_))))
  rfl
  refine Ao (by simpa using hl) (Ao (by simpa using hl) (Ts (by simpa using hl) (Fy rfl ?_)))
  rfl
 | succ j ih =>
  intro m x c h0 hc hm hx0 hx1
  obtain ⟨m, rfl⟩ : ∃ m', m = m' + 1 := ⟨m - 1, by omega⟩
  rw [Ko]
  simp only [B7, Bh, A2, B6, Pr.gT, Pr.gF, Pr.hT, Pr.hF, Pr.kT, Pr.kF, Ce, Fo]
  refine Dq (A4 (v := .sc (.bool (decide (c ≤ (u.length : Nat))))) (fun k => rfl) ?_)
  have hl : c ≤ (u.length : Nat) := by omega
  refine An (by simpa using hl) (An (by simpa using hl) (A4 (v := .sc (.bool (decide (c < 65535)))) (fun k => rfl) (Q3 (by simpa using hl) (Fn (by simp; omega) (A4 (v := .sc (.int .i64 (x + 1))) (fun k => by rw [Ri, Gf _ (by omega) (by omega)]) (A4 (v := .sc (.bool (decide (x + 1 > 65535)))) (fun k => rfl) (Z7 ?_)))))))
  have hnx := AjE x hx0 hx1
  have hr : 0 ≤ nx x ∧ nx x ≤ 65535 := by
   unfold nx
   omega
  have tail : ∀ y, y = nx x → ((PR (n + 1) AV).call 4 (.fn 139 [] []) [Fz u, .sc (.int .i64 y)] H fun t28 H => pUn .not t28 fun t29 => H8 t29 (k (Cu [.sc (.int .i64 y), .sc (.bool true)]) H) (Ey .add (.sc (.int .i64 c)) (.sc (.int .i64 1)) fun t21 => Ko (PR (n + 1) AV) (n + 1) k m (Fz u) (.sc (.int .i64 y)) t21 H)) = k (.tup [.sc (.int .i64 (K0 u (j + 1) x).1), .sc (.bool (K0 u (j + 1) x).2)]) H := by
   rintro y rfl
   refine D0 rfl (Bq (Ez _ _ _) (Bq (Dl _ _) D1)) (Aj8 n _ hn u hu (nx x)) (Hq ?_)
   rw [K0]
   cases hh : u.contains (nx x)
   refine Fn rfl ?_
   rfl
   exact Fy rfl (A4 (v := .sc (.int .i64 (c + 1))) (fun k => by rw [Ri, Gf _ (by omega) (by omega)]) (ih m (nx x) (c + 1) (by omega) (by omega) (by omega) hr.1 hr.2))
  by_cases hg : x + 1 > 65535
  refine Fn (by simpa using hg) ?_
  rw [if_pos hg] at hnx
  exact tail 1 hnx.symm
  refine Fy (by simpa using hg) ?_
  rw [if_neg hg] at hnx
  exact tail (x + 1) hnx.symm
theorem AaP {ty : Nat} {H : Ab} {t0 t1 : Nat} {a b : Value} (hts : E0.tp ty = some [t0, t1]) : Ba Ar E0.tp ty H (.tup [.sc a, .sc b]) = some (.tup [.sc a, .sc b]) := by
 rw [Ba, Gb, hts, zab]
 simp [Cg, I8]
theorem Acf (n : Nat) (hn : 1048576 < n) (ty : Nat) (hty : ∃ t0 t1, E0.tp ty = some [t0, t1]) (x : Int) (u : List Int) (hu : u.length ≤ 1048576) : Cs E0 (n + 2) ty 131 [.sc (.int .i64 x), Fz u] = some (.tup [.sc (.int .i64 (Ch x u).1), .sc (.bool (Ch x u).2)]) := by
 obtain ⟨t0, t1, hty⟩ := hty
 rw [Bb, Afy, f131]
 simp only [Fo, A2]
 refine D0 rfl (Bq (Dl _ _) (Bq (Dl _ _) (Bq (Dl _ _) D1))) (Oz n _ x 0 65535) (Hq ?_)
 unfold Ch
 by_cases h : 0 ≤ x ∧ x ≤ 65535
 rw [if_pos h]
 refine Fy (by simp [Ge, h]) ?_
 rw [Zr n hn u hu _ _ (min (u.length + 1) 65535) (n + 1) x 0 (by omega) (by omega) (by omega) h.1 h.2, Agw u x h.1]
 exact AaP hty
 rw [if_neg h]
 exact Fn (by simp [Ge]; omega) (AaP hty)
end
section
open Go
theorem Akt (o : A7) (h : Fj o ≤ 1048576) : Oc o := by
 have h1 := Qb o h
 exact ⟨⟨h1.1.1, fun y hy => (h1.1.2 y hy).1⟩, ⟨h1.2.1.1, fun y hy => (h1.2.1.2 y hy).1⟩⟩
def Iw (o : A7) : Bool := ((C9 o && decide ((o.fQ.length : Int) > 0)) && ((o.fQ.headD W8).fQos == 0 || decide ((o.fFl.length : Int) < 3)))
def Fu (o : A7) : Int := (Ch o.fLast (o.fFl.map (·.fId))).1
def Ag (o : A7) : A7 := if Iw o then (if (Au o.fQ).fQos = 0 then { o with fQ := o.fQ.tail } else ⟨Fu o, o.fFl ++ [⟨Fu o, Au o.fQ, (Au o.fQ).fQos⟩], o.fQ.tail⟩) else o
def B9 (o : A7) : Az := if Iw o then (if (Au o.fQ).fQos = 0 then Av (Au o.fQ) 0 false else Av (Au o.fQ) (Fu o) false) else Ho
theorem AjK (o : A7) (b : Fj o ≤ 1048576) : Fm Bo o.fQ ≤ 1048576 := by
 unfold Fj at b
 omega
theorem Zf (o : A7) (b : Fj o ≤ 1048576) : o.fFl.length ≤ 1048576 := (R9 o b).1.1
theorem S6 (o : A7) (b : Fj o ≤ 1048576) : (Au o.fQ).fBody.size ≤ 1048576 := (Zx o.fQ (AjK o b)).2.1
theorem Lj (n : Nat) (hn : 1048576 < n) (x0 : A7) (k0 : O0 x0) (b0 : Fj x0 ≤ 1048576) (h13 : (Iw x0) = true) (h21 : (decide (((Au x0.fQ).fQos) = 0)) = false)  : ∀ (t pre : List Ad) (m : Nat) (i : Int) (i10 i17 i5 i3 i1 : Nat) (a5 x14 x15 x8 x7 : AV) (H : Ab), x0.fFl = pre ++ t → i = ((pre.length : Nat) : Int) → t.length < m → Ap a5 = true → Ap x14 = true → Ap x15 = true → Ap x8 = true → Ap x7 = true → Sep H [.own a5 39 (Fz (pre.map (·.fId))), .blk i10 [.sc (.int .i64 x0.fLast), x7, x15] true, .blk i17 [.sc (.string ((Au x0.fQ).fTopic)), x14, .sc (.int .i64 ((Au x0.fQ).fQos)), .sc (.bool (Au x0.fQ).fRetain)] true, .own x14 22 (A3 ((Au x0.fQ).fBody)), .own x15 25 (Ai Aj x0.fQ.tail), .own x8 25 (Ai Aj x0.fQ), .own x7 24 (Ai Aq x0.fFl), .blk i5 [.sc (.int .i64 0), .sc (.bool false), .sc (.int .i64 0), .sc (.bool false), .sc (.int .i64 0), .sc (.string (⟨#[]⟩)), .nl, .sc (.string (⟨#[]⟩)), .sc (.int .i64 0), .sc (.bool false), .sc (.int .i64 0), .sc (.bool false), .sc (.string (⟨#[]⟩)), .nl, .sc (.int .i64 0), .sc (.bool false), .sc (.bool false), .sc (.string (⟨#[]⟩)), .sc (.bool false), .nl, .sc (.int .i64 0), .sc (.bool false), .nl, .nl, .nl] true, .blk i3 [.sc (.int .i64 0), .nl, .nl] true, .blk i1 (Bf x0) true] → Gd (· = some (.tup [.agg (Bf (Ag x0)), .agg (Bd (B9 x0)), .sc (.bool (Iw x0))])) (Lv (PR (n + 12) AV) (n + 12) (fun x H => Ba Ar E0.tp 45 H x) m (.ptr i1 0) (.ptr i3 0) (.ptr i5 0) (.ptr i10 0) (.ptr i17 0) (a5) (.sc (.int .i64 i)) H)
 | [], pre, m + 1, i, i10, i17, i5, i3, i1, a5, x14, x15, x8, x7, H, he, hi, hm, la5, lx14, lx15, lx8, lx7, s0 => by
  obtain rfl : pre = x0.fFl := by simpa using he.symm
  have hfl := Zf x0 b0
  have hpb := S6 x0 b0
  rw [Lv]
  try simp only [Qg, Qf]
  refine Am (o' := 1) rfl (A0 (c := Ai Aq x0.fFl) s0 D7 rfl (Sd (Mu (Bt (by simp [hi]) (Am (o' := 0) rfl (A0 (c := .sc (.int .i64 x0.fLast)) s0 D7 rfl ?_))))))
  have c201 := Acf (n + 10) (by omega) 102 ⟨_, _, rfl⟩ x0.fLast (x0.fFl.map (·.fId)) (by rw [zbC]; omega)
  refine I7 s0 rfl (.cons .sc (.cons (.own (by decide) (.here)) .nil)) (c201) rfl (Ds (Ds Ha)) ?_
  rintro _ _ H ⟨_, rfl, ⟨_, rfl, ⟨rfl, rfl⟩⟩⟩ s202
  simp only [zah] at s202
  refine Eb (v := si ((Ch x0.fLast (x0.fFl.map (·.fId))).1)) rfl (Eb (v := .sc (.bool (Ch x0.fLast (x0.fFl.map (·.fId))).2)) rfl (Am (o' := 0) rfl (B0 s202 A1 rfl rfl fun H s203 => Am (o' := 1) rfl (A0 (c := x7) s203 (.here) rfl (Ae s203 Bu rfl (Am (o' := 2) rfl (A0 (c := si ((Au x0.fQ).fQos)) s203 Bu rfl (Bk (cs := [si ((Ch x0.fLast (x0.fFl.map (·.fId))).1), ss ((Au x0.fQ).fTopic), x14, si ((Au x0.fQ).fQos), .sc (.bool (Au x0.fQ).fRetain), si ((Au x0.fQ).fQos)]) (Eu (z' := [si ((Ch x0.fLast (x0.fFl.map (·.fId))).1), sE, .nl, i0, bF, i0]) (Cw rfl) rfl (A9 rfl) rfl (Eu (z' := [si ((Ch x0.fLast (x0.fFl.map (·.fId))).1), ss ((Au x0.fQ).fTopic), x14, si ((Au x0.fQ).fQos), .sc (.bool (Au x0.fQ).fRetain), i0]) (Ac (Aa rfl (Aa lx14 rfl))) rfl (A9 rfl) rfl (Eu (z' := [si ((Ch x0.fLast (x0.fFl.map (·.fId))).1), ss ((Au x0.fQ).fTopic), x14, si ((Au x0.fQ).fQos), .sc (.bool (Au x0.fQ).fRetain), si ((Au x0.fQ).fQos)]) (Cw rfl) rfl (A9 rfl) rfl (rfl)))) (Bk (cs := [si ((Ch x0.fLast (x0.fFl.map (·.fId))).1), ss ((Au x0.fQ).fTopic), x14, si ((Au x0.fQ).fQos), .sc (.bool (Au x0.fQ).fRetain), si ((Au x0.fQ).fQos)]) (Eu (z' := [si ((Ch x0.fLast (x0.fFl.map (·.fId))).1), ss ((Au x0.fQ).fTopic), x14, si ((Au x0.fQ).fQos), .sc (.bool (Au x0.fQ).fRetain), si ((Au x0.fQ).fQos)]) (Ac (Aa rfl (Aa rfl (Aa lx14 rfl)))) rfl (A9 rfl) rfl (rfl)) (Bz s203 fun i204 H s205 => ?_))))))))))
  refine AfK (cty := [3, 9, 22, 3, 4, 3]) (e := (⟨(Ch x0.fLast (x0.fFl.map (·.fId))).1, ⟨(Au x0.fQ).fTopic, (Au x0.fQ).fBody, (Au x0.fQ).fQos, (Au x0.fQ).fRetain⟩, (Au x0.fQ).fQos⟩ : Ad)) (k := 2) s205 ⟨_, _, rfl, rfl, rfl, rfl⟩ Z8 (.here) rfl (Aa rfl (Aa rfl (Aa lx14 rfl))) (.sc (.sc (.own Cq (oS3 .nil)))) (K4 ⟨(Sy ((Au x0.fQ).fBody)), (tK3 trivial)⟩) rfl (by omega) A5 rfl rfl rfl rfl (Gq ((Au x0.fQ).fBody)) fun x206 H lx206 s207 => Am (o' := 1) rfl (B0 s207 A1 lx206 rfl fun H s208 => Ae s208 (.here) rfl (Ae s208 Cq rfl ?_))
  have c209 := Xx (n + 11) (by omega) (Au x0.fQ) ((Ch x0.fLast (x0.fFl.map (·.fId))).1) false hpb
  refine Gl s208 rfl (.agg (.cons .sc (.cons (.shr (by decide) A1) (Hz .nil))) (Hz .nil)) (c209) ⟨_, rfl, rfl⟩ (Eh _) ?_
  rintro _ _ H ⟨x210, x211, x212, x213, x214, x215, lx210, lx211, lx212, lx213, lx214, lx215, rfl, rfl⟩ s216
  simp only [zah, zar] at s216
  refine Bg (cs' := [si ((Ch x0.fLast (x0.fFl.map (·.fId))).1), x206, x15]) s216 Acn (Ac (Aa rfl (Aa lx206 (Aa lx15 rfl)))) rfl (A9 rfl) rfl fun H s217 => ?_
  refine Bg (cs' := [.sc (.int .i64 ((Av (Au x0.fQ) ((Ch x0.fLast (x0.fFl.map (·.fId))).1) false).fType)), .sc (.bool (Av (Au x0.fQ) ((Ch x0.fLast (x0.fFl.map (·.fId))).1) false).fDup), .sc (.int .i64 ((Av (Au x0.fQ) ((Ch x0.fLast (x0.fFl.map (·.fId))).1) false).fQos)), .sc (.bool (Av (Au x0.fQ) ((Ch x0.fLast (x0.fFl.map (·.fId))).1) false).fRetain), .sc (.int .i64 ((Av (Au x0.fQ) ((Ch x0.fLast (x0.fFl.map (·.fId))).1) false).fId)), .sc (.string ((Av (Au x0.fQ) ((Ch x0.fLast (x0.fFl.map (·.fId))).1) false).fTopic)), x210, .sc (.string ((Av (Au x0.fQ) ((Ch x0.fLast (x0.fFl.map (·.fId))).1) false).fClient)), .sc (.int .i64 ((Av (Au x0.fQ) ((Ch x0.fLast (x0.fFl.map (·.fId))).1) false).fLevel)), .sc (.bool (Av (Au x0.fQ) ((Ch x0.fLast (x0.fFl.map (·.fId))).1) false).fClean), .sc (.int .i64 ((Av (Au x0.fQ) ((Ch x0.fLast (x0.fFl.map (·.fId))).1) false).fKeep)), .sc (.bool (Av (Au x0.fQ) ((Ch x0.fLast (x0.fFl.map (·.fId))).1) false).fHasWill), .sc (.string ((Av (Au x0.fQ) ((Ch x0.fLast (x0.fFl.map (·.fId))).1) false).fWTopic)), x211, .sc (.int .i64 ((Av (Au x0.fQ) ((Ch x0.fLast (x0.fFl.map (·.fId))).1) false).fWQos)), .sc (.bool (Av (Au x0.fQ) ((Ch x0.fLast (x0.fFl.map (·.fId))).1) false).fWRetain), .sc (.bool (Av (Au x0.fQ) ((Ch x0.fLast (x0.fFl.map (·.fId))).1) false).fHasUser), .sc (.string ((Av (Au x0.fQ) ((Ch x0.fLast (x0.fFl.map (·.fId))).1) false).fUser)), .sc (.bool (Av (Au x0.fQ) ((Ch x0.fLast (x0.fFl.map (·.fId))).1) false).fHasPass), x212, .sc (.int .i64 ((Av (Au x0.fQ) ((Ch x0.fLast (x0.fFl.map (·.fId))).1) false).fCode)), .sc (.bool (Av (Au x0.fQ) ((Ch x0.fLast (x0.fFl.map (·.fId))).1) false).fPresent), x213, x214, x215]) s217 Acn (Ac (Aa rfl (Aa rfl (Aa rfl (Aa rfl (Aa rfl (Aa rfl (Aa lx210 (Aa rfl (Aa rfl (Aa rfl (Aa rfl (Aa rfl (Aa rfl (Aa lx211 (Aa rfl (Aa rfl (Aa rfl (Aa rfl (Aa rfl (Aa lx212 (Aa rfl (Aa rfl (Aa lx213 (Aa lx214 (Aa lx215 rfl)))))))))))))))))))))))))) rfl (A9 rfl) rfl fun H s218 => Ae s218 A1 rfl (Ae s218 (.here) rfl ?_)
  have s219 := s218.forget D7
  refine Dn (Dt s219 rfl (.agg ⟨_, rfl, rfl⟩ (.sc (.own (.here) (.own Of .nil))) (.agg ⟨_, rfl, rfl⟩ (G6 (.own Z8 (G6 (.own X9 (Mk (.own Nk (.sc (.sc (.own E2 (.own Cq (.own Bu .nil))))))))))) (.sc .nil))) ⟨(Er ⟨_, rfl, rfl⟩ ⟨trivial, ⟨(At (Cm (x0.fFl ++ [⟨(Ch x0.fLast (x0.fFl.map (·.fId))).1, ⟨(Au x0.fQ).fTopic, (Au x0.fQ).fBody, (Au x0.fQ).fQos, (Au x0.fQ).fRetain⟩, (Au x0.fQ).fQos⟩])) (by decide)), ⟨(At (Ef x0.fQ.tail) (by decide)), trivial⟩⟩⟩), ⟨(Er ⟨_, rfl, rfl⟩ (G7 ⟨(At (Gq ((Av (Au x0.fQ) ((Ch x0.fLast (x0.fFl.map (·.fId))).1) false).fBody)) (by decide)), (G7 ⟨(At (Gq ((Av (Au x0.fQ) ((Ch x0.fLast (x0.fFl.map (·.fId))).1) false).fWBody)) (by decide)), (Mi ⟨(At (Gq ((Av (Au x0.fQ) ((Ch x0.fLast (x0.fFl.map (·.fId))).1) false).fPass)) (by decide)), (K4 ⟨(At (Im ((Av (Au x0.fQ) ((Ch x0.fLast (x0.fFl.map (·.fId))).1) false).fWants)) (by decide)), ⟨(At (S0 ((Av (Au x0.fQ) ((Ch x0.fLast (x0.fFl.map (·.fId))).1) false).fNames)) (by decide)), ⟨(At (Sz ((Av (Au x0.fQ) ((Ch x0.fLast (x0.fFl.map (·.fId))).1) false).fCodes)) (by decide)), trivial⟩⟩⟩)⟩)⟩)⟩)), ⟨trivial, trivial⟩⟩⟩) ?_
  have e220 : Ag x0 = (⟨(Ch x0.fLast (x0.fFl.map (·.fId))).1, (x0.fFl ++ [⟨(Ch x0.fLast (x0.fFl.map (·.fId))).1, ⟨(Au x0.fQ).fTopic, (Au x0.fQ).fBody, (Au x0.fQ).fQos, (Au x0.fQ).fRetain⟩, (Au x0.fQ).fQos⟩]), x0.fQ.tail⟩ : A7) := by
   clear s0 s202 s203 s205 s207 s208 s216 s217 s218 s219
   try simp only [bne_iff_ne, beq_iff_eq, beq_eq_false_iff_ne, F4] at h13 h21
   first | assumption | (simp only [Ag, B9, Fu, h13, h21, if_true, if_false, zal]; first | done | rfl)
  have e221 : B9 x0 = (⟨(Av (Au x0.fQ) ((Ch x0.fLast (x0.fFl.map (·.fId))).1) false).fType, (Av (Au x0.fQ) ((Ch x0.fLast (x0.fFl.map (·.fId))).1) false).fDup, (Av (Au x0.fQ) ((Ch x0.fLast (x0.fFl.map (·.fId))).1) false).fQos, (Av (Au x0.fQ) ((Ch x0.fLast (x0.fFl.map (·.fId))).1) false).fRetain, (Av (Au x0.fQ) ((Ch x0.fLast (x0.fFl.map (·.fId))).1) false).fId, (Av (Au x0.fQ) ((Ch x0.fLast (x0.fFl.map (·.fId))).1) false).fTopic, (Av (Au x0.fQ) ((Ch x0.fLast (x0.fFl.map (·.fId))).1) false).fBody, (Av (Au x0.fQ) ((Ch x0.fLast (x0.fFl.map (·.fId))).1) false).fClient, (Av (Au x0.fQ) ((Ch x0.fLast (x0.fFl.map (·.fId))).1) false).fLevel, (Av (Au x0.fQ) ((Ch x0.fLast (x0.fFl.map (·.fId))).1) false).fClean, (Av (Au x0.fQ) ((Ch x0.fLast (x0.fFl.map (·.fId))).1) false).fKeep, (Av (Au x0.fQ) ((Ch x0.fLast (x0.fFl.map (·.fId))).1) false).fHasWill, (Av (Au x0.fQ) ((Ch x0.fLast (x0.fFl.map (·.fId))).1) false).fWTopic, (Av (Au x0.fQ) ((Ch x0.fLast (x0.fFl.map (·.fId))).1) false).fWBody, (Av (Au x0.fQ) ((Ch x0.fLast (x0.fFl.map (·.fId))).1) false).fWQos, (Av (Au x0.fQ) ((Ch x0.fLast (x0.fFl.map (·.fId))).1) false).fWRetain, (Av (Au x0.fQ) ((Ch x0.fLast (x0.fFl.map (·.fId))).1) false).fHasUser, (Av (Au x0.fQ) ((Ch x0.fLast (x0.fFl.map (·.fId))).1) false).fUser, (Av (Au x0.fQ) ((Ch x0.fLast (x0.fFl.map (·.fId))).1) false).fHasPass, (Av (Au x0.fQ) ((Ch x0.fLast (x0.fFl.map (·.fId))).1) false).fPass, (Av (Au x0.fQ) ((Ch x0.fLast (x0.fFl.map (·.fId))).1) false).fCode, (Av (Au x0.fQ) ((Ch x0.fLast (x0.fFl.map (·.fId))).1) false).fPresent, ((Av (Au x0.fQ) ((Ch x0.fLast (x0.fFl.map (·.fId))).1) false).fWants), (Av (Au x0.fQ) ((Ch x0.fLast (x0.fFl.map (·.fId))).1) false).fNames, (Av (Au x0.fQ) ((Ch x0.fLast (x0.fFl.map (·.fId))).1) false).fCodes⟩ : Az) := by
   clear s0 s202 s203 s205 s207 s208 s216 s217 s218 s219
   try simp only [bne_iff_ne, beq_iff_eq, beq_eq_false_iff_ne, F4] at h13 h21
   first | assumption | (simp only [Ag, B9, Fu, h13, h21, if_true, if_false, zal]; first | done | rfl)
  have e222 : Iw x0 = true := by
   clear s0 s202 s203 s205 s207 s208 s216 s217 s218 s219
   try simp only [bne_iff_ne, beq_iff_eq, beq_eq_false_iff_ne, F4] at h13 h21
   first | assumption | (simp only [Ag, B9, Fu, h13, h21, if_true, if_false, zal]; first | done | rfl)
  ·rw [e220, e221, e222]
   first | done | rfl
 | y :: t, pre, m + 1, i, i10, i17, i5, i3, i1, a5, x14, x15, x8, x7, H, he, hi, hm, la5, lx14, lx15, lx8, lx7, s0 => by
  have hlt : pre.length < x0.fFl.length := by rw [he]; simp
  have hfl := Zf x0 b0
  have hpb := S6 x0 b0
  rw [Lv]
  try simp only [Qg, Qf]
  exact Am (o' := 1) rfl (A0 (c := Ai Aq x0.fFl) s0 D7 rfl (Sd (Mu (Ci (by simp [hi]; omega) (Am (o' := 1) rfl (A0 (c := Ai Aq x0.fFl) s0 D7 rfl (Sc hi A5 (by decide) he (Aa4 (Aef (c := .sc (.int .i64 y.fId)) rfl (Bk (cs := [.sc (.int .i64 y.fId)]) rfl (Bz s0 fun i201 H s202 => AfJ s202 A1 (.here) ⟨_, _, rfl, rfl, rfl, rfl⟩ rfl (by first | omega | (simp only [zbC]; omega)) fun x203 H lx203 s204 => Gx (by omega) (by omega) (Lj n hn x0 k0 b0 h13 h21  t (pre ++ [y]) m _ i10 i17 i5 i3 i1 x203 x14 x15 x8 x7 _ (by rw [he]; simp) (by rw [hi]; simp) (by simpa using hm) lx203 lx14 lx15 lx8 lx7 (by simpa only [za5, zau, zbs] using (s204.sel (.cons (.here) (.cons (.here) (.cons (.here) (.cons (.here) (.cons (.here) (.cons (.here) (.cons (.here) (.cons (.here) (.cons (.here) (.cons (.here) .nil))))))))))))))))))))))))
theorem T0 (n : Nat) (hn : 1048576 < n) (x0 : A7) (k0 : O0 x0) (b0 : Fj x0 ≤ 1048576) : Cs E0 (n + 13) 45 113 [.agg (Bf x0)] = some (.tup [.agg (Bf (Ag x0)), .agg (Bd (B9 x0)), .sc (.bool (Iw x0))]) := by
 rw [Bb, Afn, f113]
 refine G0 (G := (· = some (.tup [.agg (Bf (Ag x0)), .agg (Bd (B9 x0)), sb (Iw x0)]))) ?_
 have hfl := Zf x0 b0
 have hpb := S6 x0 b0
 try simp only [Qg, Qf]
 have s0 : Sep [] [] := Gz
 refine Ms s0 (F8 (H4 _)) fun i1 H s2 => Dc s2 fun i3 H s4 => Dc s4 fun i5 H s6 => Ae s6 Bu rfl (Gl s6 rfl (.aggF (H4 _) .nil) (Sm (n + 8) (by omega) x0 (Akt x0 b0)) ⟨_, rfl, rfl⟩ (J7 _) ?_)
 rintro _ _ H ⟨x7, x8, lx7, lx8, rfl, rfl⟩ s9
 simp only [zah, zar] at s9
 refine Dc s9 fun i10 H s11 => Bg (cs' := [si x0.fLast, x7, x8]) s11 (.here) (Ac (Aa rfl (Aa lx7 (Aa lx8 rfl)))) rfl (A9 rfl) rfl fun H s12 => Ae s12 Nk rfl (Co (v := (.bool (Iw x0))) s12 rfl (.aggF (H4 _) .nil) (Tf (n + 1) (by omega) x0 k0 b0) (He (Af ((Iw x0)) (fun h13 => ?_) fun h13 => ?_)))
 refine Bt (nF h13) (Am (o' := 2) rfl (A0 (c := Ai Aj x0.fQ) s12 Nk rfl (I7 s12 rfl (.cons .ro .nil) (Ace (n + 8) (by omega) x0.fQ k0.2.2 (AjK x0 b0)) rfl (Ku (ty := 25) rfl (Ef x0.fQ.tail) (G9 ⟨_, rfl, rfl⟩ (Aih _) (Ds Ha))) ?_)))
 rintro _ _ H ⟨x15, _, _, lx15, rfl, rfl, ⟨_, _, _, _, rfl, rfl, ⟨x14, lx14, rfl, rfl⟩, ⟨_, rfl, ⟨rfl, rfl⟩⟩⟩⟩ s16
 simp only [zah, zar] at s16
 refine Eb (v := x15) rfl (Eb (v := .agg [ss ((Au x0.fQ).fTopic), x14, si ((Au x0.fQ).fQos), .sc (.bool (Au x0.fQ).fRetain)]) rfl (Eb (v := sb (AgS x0.fQ)) rfl (Dc s16 fun i17 H s18 => Bg (cs' := [ss ((Au x0.fQ).fTopic), x14, si ((Au x0.fQ).fQos), .sc (.bool (Au x0.fQ).fRetain)]) s18 (.here) (Ac (Aa rfl (Aa lx14 rfl))) rfl (A9 rfl) rfl fun H s19 => Am (o' := 2) rfl (Bg (cs' := [si x0.fLast, x7, x15]) s19 Cq (Cw lx15) rfl (A9 rfl) rfl fun H s20 => Am (o' := 2) rfl (A0 (c := si ((Au x0.fQ).fQos)) s20 A1 rfl (Bp (Af ((decide (((Au x0.fQ).fQos) = 0))) (fun h21 => ?_) fun h21 => ?_)))))))
 refine Ci h21 (Ae s20 (.here) rfl (Ae s20 A1 rfl ?_))
 have c22 := Xx (n + 11) (by omega) (Au x0.fQ) 0 false hpb
 refine Gl s20 rfl (.agg (.cons .sc (.cons (.own (by decide) Bu) (Hz .nil))) (Hz .nil)) (c22) ⟨_, rfl, rfl⟩ (Eh _) ?_
 rintro _ _ H ⟨x23, x24, x25, x26, x27, x28, lx23, lx24, lx25, lx26, lx27, lx28, rfl, rfl⟩ s29
 simp only [zah, zar] at s29
 refine Bg (cs' := [si x0.fLast, x7, x15]) s29 Acn (Ac (Aa rfl (Aa lx7 (Aa lx15 rfl)))) rfl (A9 rfl) rfl fun H s30 => Bg (cs' := [si ((Av (Au x0.fQ) 0 false).fType), .sc (.bool (Av (Au x0.fQ) 0 false).fDup), si ((Av (Au x0.fQ) 0 false).fQos), .sc (.bool (Av (Au x0.fQ) 0 false).fRetain), si ((Av (Au x0.fQ) 0 false).fId), ss ((Av (Au x0.fQ) 0 false).fTopic), x23, ss ((Av (Au x0.fQ) 0 false).fClient), si ((Av (Au x0.fQ) 0 false).fLevel), .sc (.bool (Av (Au x0.fQ) 0 false).fClean), si ((Av (Au x0.fQ) 0 false).fKeep), .sc (.bool (Av (Au x0.fQ) 0 false).fHasWill), ss ((Av (Au x0.fQ) 0 false).fWTopic), x24, si ((Av (Au x0.fQ) 0 false).fWQos), .sc (.bool (Av (Au x0.fQ) 0 false).fWRetain), .sc (.bool (Av (Au x0.fQ) 0 false).fHasUser), ss ((Av (Au x0.fQ) 0 false).fUser), .sc (.bool (Av (Au x0.fQ) 0 false).fHasPass), x25, si ((Av (Au x0.fQ) 0 false).fCode), .sc (.bool (Av (Au x0.fQ) 0 false).fPresent), x26, x27, x28]) s30 Acn (Ac (Aa rfl (Aa rfl (Aa rfl (Aa rfl (Aa rfl (Aa rfl (Aa lx23 (Aa rfl (Aa rfl (Aa rfl (Aa rfl (Aa rfl (Aa rfl (Aa lx24 (Aa rfl (Aa rfl (Aa rfl (Aa rfl (Aa rfl (Aa lx25 (Aa rfl (Aa rfl (Aa lx26 (Aa lx27 (Aa lx28 rfl)))))))))))))))))))))))))) rfl (A9 rfl) rfl fun H s31 => Ae s31 A1 rfl (Ae s31 (.here) rfl ?_)
 refine Dn (Dt s31 rfl (.agg ⟨_, rfl, rfl⟩ (.sc (.own Acn (.own Of .nil))) (.agg ⟨_, rfl, rfl⟩ (G6 (.own Z8 (G6 (.own X9 (Mk (.own Nk (.sc (.sc (.own E2 (.own Cq (.own Bu .nil))))))))))) (.sc .nil))) ⟨(Er ⟨_, rfl, rfl⟩ ⟨trivial, ⟨(At (Cm x0.fFl) (by decide)), ⟨(At (Ef x0.fQ.tail) (by decide)), trivial⟩⟩⟩), ⟨(Er ⟨_, rfl, rfl⟩ (G7 ⟨(At (Gq ((Av (Au x0.fQ) 0 false).fBody)) (by decide)), (G7 ⟨(At (Gq ((Av (Au x0.fQ) 0 false).fWBody)) (by decide)), (Mi ⟨(At (Gq ((Av (Au x0.fQ) 0 false).fPass)) (by decide)), (K4 ⟨(At (Im ((Av (Au x0.fQ) 0 false).fWants)) (by decide)), ⟨(At (S0 ((Av (Au x0.fQ) 0 false).fNames)) (by decide)), ⟨(At (Sz ((Av (Au x0.fQ) 0 false).fCodes)) (by decide)), trivial⟩⟩⟩)⟩)⟩)⟩)), ⟨trivial, trivial⟩⟩⟩) ?_
 have e32 : Ag x0 = (⟨x0.fLast, x0.fFl, x0.fQ.tail⟩ : A7) := by
  clear s0 s2 s4 s6 s9 s11 s12 s16 s18 s19 s20 s29 s30 s31
  try simp only [bne_iff_ne, beq_iff_eq, beq_eq_false_iff_ne, F4] at h13 h21
  first | assumption | (simp only [Ag, B9, Fu, h13, h21, if_true, if_false, zal]; first | done | rfl)
 have e33 : B9 x0 = (⟨(Av (Au x0.fQ) 0 false).fType, (Av (Au x0.fQ) 0 false).fDup, (Av (Au x0.fQ) 0 false).fQos, (Av (Au x0.fQ) 0 false).fRetain, (Av (Au x0.fQ) 0 false).fId, (Av (Au x0.fQ) 0 false).fTopic, (Av (Au x0.fQ) 0 false).fBody, (Av (Au x0.fQ) 0 false).fClient, (Av (Au x0.fQ) 0 false).fLevel, (Av (Au x0.fQ) 0 false).fClean, (Av (Au x0.fQ) 0 false).fKeep, (Av (Au x0.fQ) 0 false).fHasWill, (Av (Au x0.fQ) 0 false).fWTopic, (Av (Au x0.fQ) 0 false).fWBody, (Av (Au x0.fQ) 0 false).fWQos, (Av (Au x0.fQ) 0 false).fWRetain, (Av (Au x0.fQ) 0 false).fHasUser, (Av (Au x0.fQ) 0 false).fUser, (Av (Au x0.fQ) 0 false).fHasPass, (Av (Au x0.fQ) 0 false).fPass, (Av (Au x0.fQ) 0 false).fCode, (Av (Au x0.fQ) 0 false).fPresent, ((Av (Au x0.fQ) 0 false).fWants), (Av (Au x0.fQ) 0 false).fNames, (Av (Au x0.fQ) 0 false).fCodes⟩ : Az) := by
  clear s0 s2 s4 s6 s9 s11 s12 s16 s18 s19 s20 s29 s30 s31
  try simp only [bne_iff_ne, beq_iff_eq, beq_eq_false_iff_ne, F4] at h13 h21
  first | assumption | (simp only [Ag, B9, Fu, h13, h21, if_true, if_false, zal]; first | done | rfl)
 have e34 : Iw x0 = true := by
  clear s0 s2 s4 s6 s9 s11 s12 s16 s18 s19 s20 s29 s30 s31
  try simp only [bne_iff_ne, beq_iff_eq, beq_eq_false_iff_ne, F4] at h13 h21
  first | assumption | (simp only [Ag, B9, Fu, h13, h21, if_true, if_false, zal]; first | done | rfl)
 ·rw [e32, e33, e34]
  first | done | rfl
 refine Bt h21 ?_
 have s35 := s20.nl (ty := 39) ⟨_, _, rfl, rfl⟩
 exact Lj n hn x0 k0 b0 h13 h21  x0.fFl [] _ 0 i10 i17 i5 i3 i1 .nl x14 x15 x8 x7 _ rfl rfl (by omega) rfl lx14 lx15 lx8 lx7 s35
 refine Ci (nT h13) (Ae s12 (.here) rfl (Bk (cs := Hl) rfl (Bg (cs' := [si x0.fLast, x7, x8]) s12 E2 (Ac (Aa rfl (Aa lx7 (Aa lx8 rfl)))) rfl (A9 rfl) rfl fun H s36 => Bg (cs' := Hl) s36 E2 (Ac rfl) rfl (A9 rfl) rfl fun H s37 => Ae s37 A1 rfl (Ae s37 (.here) rfl (Dn (Dt s37 rfl (.agg ⟨_, rfl, rfl⟩ (.sc (.own E2 (.own Cq .nil))) (.agg ⟨_, rfl, rfl⟩ (G6 (.nl (G6 (.nl (Mk (.nl (.sc (.sc (.nl (.nl (.nl .nil))))))))))) (.sc .nil))) ⟨(Er ⟨_, rfl, rfl⟩ ⟨trivial, ⟨(At (Cm x0.fFl) (by decide)), ⟨(At (Ef x0.fQ) (by decide)), trivial⟩⟩⟩), ⟨(Er ⟨_, rfl, rfl⟩ (G7 ⟨Dp, (G7 ⟨Dp, (Mi ⟨Dp, (K4 ⟨Dp, ⟨Dp, ⟨Dp, trivial⟩⟩⟩)⟩)⟩)⟩)), ⟨trivial, trivial⟩⟩⟩) ?_)))))
 have e38 : Ag x0 = (⟨x0.fLast, x0.fFl, x0.fQ⟩ : A7) := by
  clear s0 s2 s4 s6 s9 s11 s12 s36 s37
  try simp only [bne_iff_ne, beq_iff_eq, beq_eq_false_iff_ne, F4] at h13
  first | assumption | (simp only [Ag, B9, Fu, h13, if_true, if_false, zal]; first | done | rfl)
 have e39 : B9 x0 = (⟨0, false, 0, false, 0, ⟨#[]⟩, ⟨#[]⟩, ⟨#[]⟩, 0, false, 0, false, ⟨#[]⟩, ⟨#[]⟩, 0, false, false, ⟨#[]⟩, false, ⟨#[]⟩, 0, false, [], [], []⟩ : Az) := by
  clear s0 s2 s4 s6 s9 s11 s12 s36 s37
  try simp only [bne_iff_ne, beq_iff_eq, beq_eq_false_iff_ne, F4] at h13
  first | assumption | (simp only [Ag, B9, Fu, h13, if_true, if_false, zal]; first | done | rfl)
 have e40 : Iw x0 = false := by
  clear s0 s2 s4 s6 s9 s11 s12 s36 s37
  try simp only [bne_iff_ne, beq_iff_eq, beq_eq_false_iff_ne, F4] at h13
  first | assumption | (simp only [Ag, B9, Fu, h13, if_true, if_false, zal]; first | done | rfl)
 ·rw [e38, e39, e40]
  first | done | rfl
end
section
open Go
def Ig (x y : Np) : Bool := x.fFilter.toList == y.fFilter.toList && x.fQos == y.fQos
theorem T5 (x y : Np) : Ji [1, 0] (Dh x) (Dh y) = some (Ig x y) := by
 simp only [Dh, Ji, Yt, Ig, if_true, zab]
 generalize (x.fFilter.toList == y.fFilter.toList) = b0
 generalize (x.fQos == y.fQos) = b1
 cases b0 <;> cases b1 <;> rfl
theorem Yu (n : Nat) (hn : 1048576 < n) (ty : Nat) (l q : List Np) (hl : l.length ≤ 1048576) : Cs E0 (n + 1) ty 70 [Ai Dh l, Ai Dh q] = some (.sc (.bool (Fs Ig l q))) := by
 rw [Bb, AhO, f70]
 simp only [B7, Bh, A2]
 rw [Jb, Jb, Vt, Ea, Fs]
 by_cases h : l.length = q.length
 rw [if_neg (by simpa using h), if_pos h]
 rw [Jb]
 have key := J5 (β := AV) Dh (L7) (by decide) (fun x => .agg (Dh x)) (fun p k => Ct true 2 p [] k) (fun x r k => Sp 2 _ _ [] k (L7 x)) (fun x y k => Nt .neq [1, 0] x y k) Ig (fun x y k => Aag _ _ _ _ (T5 x y) k) l q h hl (fun m i => R3 (PR n AV) n (fun x H => Ba Ar E0.tp ty H x) m (Ai Dh l) (Ai Dh q) (si l.length) i []) (some bF) (some bT) (fun m i => rfl) l q [] [] n rfl rfl rfl (by omega)
 simp only [zay, zaY] at key
 refine key.trans ?_
 cases Ia Ig l q <;> rfl
 rw [if_pos (by simpa using h), if_neg h]
 rfl
theorem Abh (n : Nat) (hn : 1048576 < n) (ty : Nat) (l q : List ByteArray) (hl : l.length ≤ 1048576) : Cs E0 (n + 1) ty 71 [Is l, Is q] = some (.sc (.bool (Fs Nl l q))) := by
 rw [Nh, Nh]
 rw [Bb, AhP, f71]
 simp only [B7, Bh, A2]
 rw [Jb, Jb, Vt, Ea, Fs]
 by_cases h : l.length = q.length
 rw [if_neg (by simpa using h), if_pos h]
 rw [Jb]
 have key := J5 (β := AV) Vb (fun _ => rfl) (by decide) (fun z => ss z) (fun p k => Ct false 1 p [] k) (fun x r k => ldS x r [] k) (fun x y k => Ey .neq x y k) Nl (fun x y k => neS x y k) l q h hl (fun m i => R4 (PR n AV) n (fun x H => Ba Ar E0.tp ty H x) m (Ai Vb l) (Ai Vb q) (si l.length) i []) (some bF) (some bT) (fun m i => rfl) l q [] [] n rfl rfl rfl (by omega)
 simp only [zay, zaY] at key
 refine key.trans ?_
 cases Ia Nl l q <;> rfl
 rw [if_pos (by simpa using h), if_neg h]
 rfl
theorem Abg (n : Nat) (hn : 1048576 < n) (ty : Nat) (l q : List Int) (hl : l.length ≤ 1048576) : Cs E0 (n + 1) ty 72 [Fz l, Fz q] = some (.sc (.bool (Fs Vc l q))) := by
 rw [Jo, Jo]
 rw [Bb, AhQ, f72]
 simp only [B7, Bh, A2]
 rw [Jb, Jb, Vt, Ea, Fs]
 by_cases h : l.length = q.length
 rw [if_neg (by simpa using h), if_pos h]
 rw [Jb]
 have key := J5 (β := AV) Rt (fun _ => rfl) (by decide) (fun z => si z) (fun p k => Ct false 1 p [] k) (fun x r k => ldI x r [] k) (fun x y k => Ey .neq x y k) Vc (fun x y k => neI x y k) l q h hl (fun m i => R5 (PR n AV) n (fun x H => Ba Ar E0.tp ty H x) m (Ai Rt l) (Ai Rt q) (si l.length) i []) (some bF) (some bT) (fun m i => rfl) l q [] [] n rfl rfl rfl (by omega)
 simp only [zay, zaY] at key
 refine key.trans ?_
 cases Ia Vc l q <;> rfl
 rw [if_pos (by simpa using h), if_neg h]
 rfl
def Fv (a b : Az) : Bool := (a.fType == b.fType) && (a.fDup == b.fDup) && (a.fQos == b.fQos) && (a.fRetain == b.fRetain) && (a.fId == b.fId) && (a.fTopic.toList == b.fTopic.toList) && (a.fBody.toList == b.fBody.toList) && (a.fClient.toList == b.fClient.toList) && (a.fLevel == b.fLevel) && (a.fClean == b.fClean) && (a.fKeep == b.fKeep) && (a.fHasWill == b.fHasWill) && (a.fWTopic.toList == b.fWTopic.toList) && (a.fWBody.toList == b.fWBody.toList) && (a.fWQos == b.fWQos) && (a.fWRetain == b.fWRetain) && (a.fHasUser == b.fHasUser) && (a.fUser.toList == b.fUser.toList) && (a.fHasPass == b.fHasPass) && (a.fPass.toList == b.fPass.toList) && (a.fCode == b.fCode) && (a.fPresent == b.fPresent)
def Ke (a b : Az) : Bool := Fs Ig a.fWants b.fWants && Fs Nl a.fNames b.fNames && Fs Vc a.fCodes b.fCodes
def C1 (a b : Az) : Bool := Ke a b && Fv a b
theorem Agr (n : Nat) (hn : 1048576 < n) (ty : Nat) (a b : Az) (H : Ab) (i1 i2 : Nat) (B1 : H[i1]? = some ⟨Bd a, true, true⟩) (B2 : H[i2]? = some ⟨Bd b, true, true⟩) (hl2 : a.fCodes.length ≤ 1048576) (hq2 : a.fCodes.length = b.fCodes.length) : Kn (PR (n + 1) AV) (n + 1) (fun x H => Ba Ar E0.tp ty H x) (n + 1) (.ptr i1 0) (.ptr i2 0) (.sc (.int .i64 0)) H = some (.sc (.bool (if Ia Vc a.fCodes b.fCodes then (Fv a b) else false))) := by
 have hL : ∀ m i, Kn (PR (n + 1) AV) (n + 1) (fun x H => Ba Ar E0.tp ty H x) (m + 1) (.ptr i1 0) (.ptr i2 0) i H = Ey .lss i (si a.fCodes.length) fun t14 => H8 t14 (Fa 1 (Ai Rt a.fCodes) i fun t19 => Ct false 1 t19 H fun t20 => Fa 1 (Ai Rt b.fCodes) i fun t23 => Ct false 1 t23 H fun t24 => (fun x y k => Ey .neq x y k) t20 t24 fun t25 => H8 t25 (some bF) (Ey .add i (si 1) fun t16 => Kn (PR (n + 1) AV) (n + 1) (fun x H => Ba Ar E0.tp ty H x) m (.ptr i1 0) (.ptr i2 0) t16 H)) (some (sb (Fv a b))) := by
  intro m i
  show (PR (n + 1) AV).fadr 24 (.ptr i1 0) _ = _
  simp only [B3, Bm, Bh, Dz, Dy, A2, B6, Pr.gT, Pr.gF, Pr.hT, Pr.hF, Pr.kT, Pr.kF, Ce, B7, Ca]
  refine Ah (Bl (c := Fz a.fCodes) B1 (A9 rfl) rfl (Dq ?_))
  congr 1
  funext t
  congr 1
  refine Ah (Bl (c := Fz a.fCodes) B1 (A9 rfl) rfl ?_)
  rw [Jo]
  congr 1
  funext t2
  congr 1
  funext t3
  refine Ah (Bl (c := Fz b.fCodes) B2 (A9 rfl) rfl ?_)
  rw [Jo]
  rfl
  skip
  refine Ah (Bl (c := si a.fType) B1 (A9 rfl) rfl (Ah (Bl (c := si b.fType) B2 (A9 rfl) rfl (A4 (v := sb (a.fType == b.fType)) (fun k => rfl) ?_))))
  apply A8 ((a.fType == b.fType) && (a.fDup == b.fDup))
  intro b1 q1
  refine Af ((a.fType == b.fType)) (fun h1 => ?_) fun h1 => ?_
  exact An h1 (Ah (An h1 (Bl (c := sb a.fDup) B1 (A9 rfl) rfl (An h1 (Ah (An h1 (Bl (c := sb b.fDup) B2 (A9 rfl) rfl (An h1 (G5 (v := sb (a.fDup == b.fDup)) (fun k => rfl) (Cc h1 (Hd q1 h1) rfl))))))))))
  exact Ao h1 (Ao h1 (Ao h1 (Ao h1 (Ao h1 (Cb h1 (Hb q1 h1) rfl)))))
  intro b1 q1
  apply A8 (b1 && (a.fQos == b.fQos))
  intro b2 q2
  refine Af (b1) (fun h2 => ?_) fun h2 => ?_
  exact An h2 (Ah (An h2 (Bl (c := si a.fQos) B1 (A9 rfl) rfl (An h2 (Ah (An h2 (Bl (c := si b.fQos) B2 (A9 rfl) rfl (An h2 (A4 (v := sb (a.fQos == b.fQos)) (fun k => rfl) (Cc h2 (Hd q2 h2) rfl))))))))))
  exact Ao h2 (Ao h2 (Ao h2 (Ao h2 (Ao h2 (Cb h2 (Hb q2 h2) rfl)))))
  intro b2 q2
  apply A8 (b2 && (a.fRetain == b.fRetain))
  intro b3 q3
  refine Af (b2) (fun h3 => ?_) fun h3 => ?_
  exact An h3 (Ah (An h3 (Bl (c := sb a.fRetain) B1 (A9 rfl) rfl (An h3 (Ah (An h3 (Bl (c := sb b.fRetain) B2 (A9 rfl) rfl (An h3 (G5 (v := sb (a.fRetain == b.fRetain)) (fun k => rfl) (Cc h3 (Hd q3 h3) rfl))))))))))
  exact Ao h3 (Ao h3 (Ao h3 (Ao h3 (Ao h3 (Cb h3 (Hb q3 h3) rfl)))))
  intro b3 q3
  apply A8 (b3 && (a.fId == b.fId))
  intro b4 q4
  refine Af (b3) (fun h4 => ?_) fun h4 => ?_
  exact An h4 (Ah (An h4 (Bl (c := si a.fId) B1 (A9 rfl) rfl (An h4 (Ah (An h4 (Bl (c := si b.fId) B2 (A9 rfl) rfl (An h4 (A4 (v := sb (a.fId == b.fId)) (fun k => rfl) (Cc h4 (Hd q4 h4) rfl))))))))))
  exact Ao h4 (Ao h4 (Ao h4 (Ao h4 (Ao h4 (Cb h4 (Hb q4 h4) rfl)))))
  intro b4 q4
  apply A8 (b4 && (a.fTopic.toList == b.fTopic.toList))
  intro b5 q5
  refine Af (b4) (fun h5 => ?_) fun h5 => ?_
  exact An h5 (Ah (An h5 (Bl (c := ss a.fTopic) B1 (A9 rfl) rfl (An h5 (Ah (An h5 (Bl (c := ss b.fTopic) B2 (A9 rfl) rfl (An h5 (A4 (v := sb (a.fTopic.toList == b.fTopic.toList)) (fun k => rfl) (Cc h5 (Hd q5 h5) rfl))))))))))
  exact Ao h5 (Ao h5 (Ao h5 (Ao h5 (Ao h5 (Cb h5 (Hb q5 h5) rfl)))))
  intro b5 q5
  apply A8 (b5 && (a.fBody.toList == b.fBody.toList))
  intro b6 q6
  refine Af (b5) (fun h6 => ?_) fun h6 => ?_
  exact An h6 (Ah (An h6 (Bl (c := A3 a.fBody) B1 (A9 rfl) rfl (An h6 (Ah (An h6 (Bl (c := A3 b.fBody) B2 (A9 rfl) rfl (An h6 (D0 rfl (Bq (Ez _ _ _) (Bq (Ez _ _ _) D1)) (Vr (n + 0) _ a.fBody b.fBody) (Cc h6 (Hd q6 h6) rfl))))))))))
  exact Ao h6 (Ao h6 (Ao h6 (Ao h6 (Ao h6 (Cb h6 (Hb q6 h6) rfl)))))
  intro b6 q6
  apply A8 (b6 && (a.fClient.toList == b.fClient.toList))
  intro b7 q7
  refine Af (b6) (fun h7 => ?_) fun h7 => ?_
  exact An h7 (Ah (An h7 (Bl (c := ss a.fClient) B1 (A9 rfl) rfl (An h7 (Ah (An h7 (Bl (c := ss b.fClient) B2 (A9 rfl) rfl (An h7 (A4 (v := sb (a.fClient.toList == b.fClient.toList)) (fun k => rfl) (Cc h7 (Hd q7 h7) rfl))))))))))
  exact Ao h7 (Ao h7 (Ao h7 (Ao h7 (Ao h7 (Cb h7 (Hb q7 h7) rfl)))))
  intro b7 q7
  apply A8 (b7 && (a.fLevel == b.fLevel))
  intro b8 q8
  refine Af (b7) (fun h8 => ?_) fun h8 => ?_
  exact An h8 (Ah (An h8 (Bl (c := si a.fLevel) B1 (A9 rfl) rfl (An h8 (Ah (An h8 (Bl (c := si b.fLevel) B2 (A9 rfl) rfl (An h8 (A4 (v := sb (a.fLevel == b.fLevel)) (fun k => rfl) (Cc h8 (Hd q8 h8) rfl))))))))))
  exact Ao h8 (Ao h8 (Ao h8 (Ao h8 (Ao h8 (Cb h8 (Hb q8 h8) rfl)))))
  intro b8 q8
  apply A8 (b8 && (a.fClean == b.fClean))
  intro b9 q9
  refine Af (b8) (fun h9 => ?_) fun h9 => ?_
  exact An h9 (Ah (An h9 (Bl (c := sb a.fClean) B1 (A9 rfl) rfl (An h9 (Ah (An h9 (Bl (c := sb b.fClean) B2 (A9 rfl) rfl (An h9 (G5 (v := sb (a.fClean == b.fClean)) (fun k => rfl) (Cc h9 (Hd q9 h9) rfl))))))))))
  exact Ao h9 (Ao h9 (Ao h9 (Ao h9 (Ao h9 (Cb h9 (Hb q9 h9) rfl)))))
  intro b9 q9
  apply A8 (b9 && (a.fKeep == b.fKeep))
  intro b10 q10
  refine Af (b9) (fun h10 => ?_) fun h10 => ?_
  exact An h10 (Ah (An h10 (Bl (c := si a.fKeep) B1 (A9 rfl) rfl (An h10 (Ah (An h10 (Bl (c := si b.fKeep) B2 (A9 rfl) rfl (An h10 (A4 (v := sb (a.fKeep == b.fKeep)) (fun k => rfl) (Cc h10 (Hd q10 h10) rfl))))))))))
  exact Ao h10 (Ao h10 (Ao h10 (Ao h10 (Ao h10 (Cb h10 (Hb q10 h10) rfl)))))
  intro b10 q10
  apply A8 (b10 && (a.fHasWill == b.fHasWill))
  intro b11 q11
  refine Af (b10) (fun h11 => ?_) fun h11 => ?_
  exact An h11 (Ah (An h11 (Bl (c := sb a.fHasWill) B1 (A9 rfl) rfl (An h11 (Ah (An h11 (Bl (c := sb b.fHasWill) B2 (A9 rfl) rfl (An h11 (G5 (v := sb (a.fHasWill == b.fHasWill)) (fun k => rfl) (Cc h11 (Hd q11 h11) rfl))))))))))
  exact Ao h11 (Ao h11 (Ao h11 (Ao h11 (Ao h11 (Cb h11 (Hb q11 h11) rfl)))))
  intro b11 q11
  apply A8 (b11 && (a.fWTopic.toList == b.fWTopic.toList))
  intro b12 q12
  refine Af (b11) (fun h12 => ?_) fun h12 => ?_
  exact An h12 (Ah (An h12 (Bl (c := ss a.fWTopic) B1 (A9 rfl) rfl (An h12 (Ah (An h12 (Bl (c := ss b.fWTopic) B2 (A9 rfl) rfl (An h12 (A4 (v := sb (a.fWTopic.toList == b.fWTopic.toList)) (fun k => rfl) (Cc h12 (Hd q12 h12) rfl))))))))))
  exact Ao h12 (Ao h12 (Ao h12 (Ao h12 (Ao h12 (Cb h12 (Hb q12 h12) rfl)))))
  intro b12 q12
  apply A8 (b12 && (a.fWBody.toList == b.fWBody.toList))
  intro b13 q13
  refine Af (b12) (fun h13 => ?_) fun h13 => ?_
  exact An h13 (Ah (An h13 (Bl (c := A3 a.fWBody) B1 (A9 rfl) rfl (An h13 (Ah (An h13 (Bl (c := A3 b.fWBody) B2 (A9 rfl) rfl (An h13 (D0 rfl (Bq (Ez _ _ _) (Bq (Ez _ _ _) D1)) (Vr (n + 0) _ a.fWBody b.fWBody) (Cc h13 (Hd q13 h13) rfl))))))))))
  exact Ao h13 (Ao h13 (Ao h13 (Ao h13 (Ao h13 (Cb h13 (Hb q13 h13) rfl)))))
  intro b13 q13
  apply A8 (b13 && (a.fWQos == b.fWQos))
  intro b14 q14
  refine Af (b13) (fun h14 => ?_) fun h14 => ?_
  exact An h14 (Ah (An h14 (Bl (c := si a.fWQos) B1 (A9 rfl) rfl (An h14 (Ah (An h14 (Bl (c := si b.fWQos) B2 (A9 rfl) rfl (An h14 (A4 (v := sb (a.fWQos == b.fWQos)) (fun k => rfl) (Cc h14 (Hd q14 h14) rfl))))))))))
  exact Ao h14 (Ao h14 (Ao h14 (Ao h14 (Ao h14 (Cb h14 (Hb q14 h14) rfl)))))
  intro b14 q14
  apply A8 (b14 && (a.fWRetain == b.fWRetain))
  intro b15 q15
  refine Af (b14) (fun h15 => ?_) fun h15 => ?_
  exact An h15 (Ah (An h15 (Bl (c := sb a.fWRetain) B1 (A9 rfl) rfl (An h15 (Ah (An h15 (Bl (c := sb b.fWRetain) B2 (A9 rfl) rfl (An h15 (G5 (v := sb (a.fWRetain == b.fWRetain)) (fun k => rfl) (Cc h15 (Hd q15 h15) rfl))))))))))
  exact Ao h15 (Ao h15 (Ao h15 (Ao h15 (Ao h15 (Cb h15 (Hb q15 h15) rfl)))))
  intro b15 q15
  apply A8 (b15 && (a.fHasUser == b.fHasUser))
  intro b16 q16
  refine Af (b15) (fun h16 => ?_) fun h16 => ?_
  exact An h16 (Ah (An h16 (Bl (c := sb a.fHasUser) B1 (A9 rfl) rfl (An h16 (Ah (An h16 (Bl (c := sb b.fHasUser) B2 (A9 rfl) rfl (An h16 (G5 (v := sb (a.fHasUser == b.fHasUser)) (fun k => rfl) (Cc h16 (Hd q16 h16) rfl))))))))))
  exact Ao h16 (Ao h16 (Ao h16 (Ao h16 (Ao h16 (Cb h16 (Hb q16 h16) rfl)))))
  intro b16 q16
  apply A8 (b16 && (a.fUser.toList == b.fUser.toList))
  intro b17 q17
  refine Af (b16) (fun h17 => ?_) fun h17 => ?_
  exact An h17 (Ah (An h17 (Bl (c := ss a.fUser) B1 (A9 rfl) rfl (An h17 (Ah (An h17 (Bl (c := ss b.fUser) B2 (A9 rfl) rfl (An h17 (A4 (v := sb (a.fUser.toList == b.fUser.toList)) (fun k => rfl) (Cc h17 (Hd q17 h17) rfl))))))))))
  exact Ao h17 (Ao h17 (Ao h17 (Ao h17 (Ao h17 (Cb h17 (Hb q17 h17) rfl)))))
  intro b17 q17
  apply A8 (b17 && (a.fHasPass == b.fHasPass))
  intro b18 q18
  refine Af (b17) (fun h18 => ?_) fun h18 => ?_
  exact An h18 (Ah (An h18 (Bl (c := sb a.fHasPass) B1 (A9 rfl) rfl (An h18 (Ah (An h18 (Bl (c := sb b.fHasPass) B2 (A9 rfl) rfl (An h18 (G5 (v := sb (a.fHasPass == b.fHasPass)) (fun k => rfl) (Cc h18 (Hd q18 h18) rfl))))))))))
  exact Ao h18 (Ao h18 (Ao h18 (Ao h18 (Ao h18 (Cb h18 (Hb q18 h18) rfl)))))
  intro b18 q18
  apply A8 (b18 && (a.fPass.toList == b.fPass.toList))
  intro b19 q19
  refine Af (b18) (fun h19 => ?_) fun h19 => ?_
  exact An h19 (Ah (An h19 (Bl (c := A3 a.fPass) B1 (A9 rfl) rfl (An h19 (Ah (An h19 (Bl (c := A3 b.fPass) B2 (A9 rfl) rfl (An h19 (D0 rfl (Bq (Ez _ _ _) (Bq (Ez _ _ _) D1)) (Vr (n + 0) _ a.fPass b.fPass) (Cc h19 (Hd q19 h19) rfl))))))))))
  exact Ao h19 (Ao h19 (Ao h19 (Ao h19 (Ao h19 (Cb h19 (Hb q19 h19) rfl)))))
  intro b19 q19
  apply A8 (b19 && (a.fCode == b.fCode))
  intro b20 q20
  refine Af (b19) (fun h20 => ?_) fun h20 => ?_
  exact An h20 (Ah (An h20 (Bl (c := si a.fCode) B1 (A9 rfl) rfl (An h20 (Ah (An h20 (Bl (c := si b.fCode) B2 (A9 rfl) rfl (An h20 (A4 (v := sb (a.fCode == b.fCode)) (fun k => rfl) (Cc h20 (Hd q20 h20) rfl))))))))))
  exact Ao h20 (Ao h20 (Ao h20 (Ao h20 (Ao h20 (Cb h20 (Hb q20 h20) rfl)))))
  intro b20 q20
  apply A8 (b20 && (a.fPresent == b.fPresent))
  intro b21 q21
  refine Af (b20) (fun h21 => ?_) fun h21 => ?_
  exact An h21 (Ah (An h21 (Bl (c := sb a.fPresent) B1 (A9 rfl) rfl (An h21 (Ah (An h21 (Bl (c := sb b.fPresent) B2 (A9 rfl) rfl (An h21 (G5 (v := sb (a.fPresent == b.fPresent)) (fun k => rfl) (Cc h21 (Hd q21 h21) rfl))))))))))
  exact Ao h21 (Ao h21 (Ao h21 (Ao h21 (Ao h21 (Cb h21 (Hb q21 h21) rfl)))))
  intro b21 q21
  subst_vars; rfl
 have key := J5 (β := AV) Rt (fun _ => rfl) (by decide) (fun z => si z) (fun p k => Ct false 1 p H k) (fun x r k => ldI x r H k) (fun x y k => Ey .neq x y k) Vc (fun x y k => neI x y k) a.fCodes b.fCodes hq2 hl2 (fun m i => Kn (PR (n + 1) AV) (n + 1) (fun x H => Ba Ar E0.tp ty H x) m (.ptr i1 0) (.ptr i2 0) i H) (some bF) (some (sb (Fv a b))) hL a.fCodes b.fCodes [] [] (n + 1) rfl rfl rfl (by omega)
 simp only [zay, zaY] at key
 refine key.trans ?_
 cases Ia Vc a.fCodes b.fCodes <;> rfl
theorem Agq (n : Nat) (hn : 1048576 < n) (ty : Nat) (a b : Az) (H : Ab) (i1 i2 : Nat) (B1 : H[i1]? = some ⟨Bd a, true, true⟩) (B2 : H[i2]? = some ⟨Bd b, true, true⟩) (hl1 : a.fNames.length ≤ 1048576) (hq1 : a.fNames.length = b.fNames.length) (hl2 : a.fCodes.length ≤ 1048576) (hq2 : a.fCodes.length = b.fCodes.length) : I6 (PR (n + 1) AV) (n + 1) (fun x H => Ba Ar E0.tp ty H x) (n + 1) (.ptr i1 0) (.ptr i2 0) (.sc (.int .i64 0)) H = some (.sc (.bool (if Ia Nl a.fNames b.fNames then (if Ia Vc a.fCodes b.fCodes then (Fv a b) else false) else false))) := by
 have hL : ∀ m i, I6 (PR (n + 1) AV) (n + 1) (fun x H => Ba Ar E0.tp ty H x) (m + 1) (.ptr i1 0) (.ptr i2 0) i H = Ey .lss i (si a.fNames.length) fun t14 => H8 t14 (Fa 1 (Ai Vb a.fNames) i fun t19 => Ct false 1 t19 H fun t20 => Fa 1 (Ai Vb b.fNames) i fun t23 => Ct false 1 t23 H fun t24 => (fun x y k => Ey .neq x y k) t20 t24 fun t25 => H8 t25 (some bF) (Ey .add i (si 1) fun t16 => I6 (PR (n + 1) AV) (n + 1) (fun x H => Ba Ar E0.tp ty H x) m (.ptr i1 0) (.ptr i2 0) t16 H)) (some (sb (if Ia Vc a.fCodes b.fCodes then (Fv a b) else false))) := by
  intro m i
  show (PR (n + 1) AV).fadr 23 (.ptr i1 0) _ = _
  simp only [B3, Bm, Bh, Dz, Dy, A2, B6, Pr.gT, Pr.gF, Pr.hT, Pr.hF, Pr.kT, Pr.kF, Ce, B7, Ca]
  refine Ah (Bl (c := Is a.fNames) B1 (A9 rfl) rfl (Dq ?_))
  congr 1
  funext t
  congr 1
  refine Ah (Bl (c := Is a.fNames) B1 (A9 rfl) rfl ?_)
  rw [Nh]
  congr 1
  funext t2
  congr 1
  funext t3
  refine Ah (Bl (c := Is b.fNames) B2 (A9 rfl) rfl ?_)
  rw [Nh]
  rfl
  skip
  exact Agr n hn ty a b H i1 i2 B1 B2 hl2 hq2
 have key := J5 (β := AV) Vb (fun _ => rfl) (by decide) (fun z => ss z) (fun p k => Ct false 1 p H k) (fun x r k => ldS x r H k) (fun x y k => Ey .neq x y k) Nl (fun x y k => neS x y k) a.fNames b.fNames hq1 hl1 (fun m i => I6 (PR (n + 1) AV) (n + 1) (fun x H => Ba Ar E0.tp ty H x) m (.ptr i1 0) (.ptr i2 0) i H) (some bF) (some (sb (if Ia Vc a.fCodes b.fCodes then (Fv a b) else false))) hL a.fNames b.fNames [] [] (n + 1) rfl rfl rfl (by omega)
 simp only [zay, zaY] at key
 refine key.trans ?_
 cases Ia Nl a.fNames b.fNames <;> rfl
theorem Agp (n : Nat) (hn : 1048576 < n) (ty : Nat) (a b : Az) (H : Ab) (i1 i2 : Nat) (B1 : H[i1]? = some ⟨Bd a, true, true⟩) (B2 : H[i2]? = some ⟨Bd b, true, true⟩) (hl0 : a.fWants.length ≤ 1048576) (hq0 : a.fWants.length = b.fWants.length) (hl1 : a.fNames.length ≤ 1048576) (hq1 : a.fNames.length = b.fNames.length) (hl2 : a.fCodes.length ≤ 1048576) (hq2 : a.fCodes.length = b.fCodes.length) : I5 (PR (n + 1) AV) (n + 1) (fun x H => Ba Ar E0.tp ty H x) (n + 1) (.ptr i1 0) (.ptr i2 0) (.sc (.int .i64 0)) H = some (.sc (.bool (if Ia Ig a.fWants b.fWants then (if Ia Nl a.fNames b.fNames then (if Ia Vc a.fCodes b.fCodes then (Fv a b) else false) else false) else false))) := by
 have hL : ∀ m i, I5 (PR (n + 1) AV) (n + 1) (fun x H => Ba Ar E0.tp ty H x) (m + 1) (.ptr i1 0) (.ptr i2 0) i H = Ey .lss i (si a.fWants.length) fun t14 => H8 t14 (Fa 2 (Ai Dh a.fWants) i fun t19 => Ct true 2 t19 H fun t20 => Fa 2 (Ai Dh b.fWants) i fun t23 => Ct true 2 t23 H fun t24 => (fun x y k => Nt .neq [1, 0] x y k) t20 t24 fun t25 => H8 t25 (some bF) (Ey .add i (si 1) fun t16 => I5 (PR (n + 1) AV) (n + 1) (fun x H => Ba Ar E0.tp ty H x) m (.ptr i1 0) (.ptr i2 0) t16 H)) (some (sb (if Ia Nl a.fNames b.fNames then (if Ia Vc a.fCodes b.fCodes then (Fv a b) else false) else false))) := by
  intro m i
  show (PR (n + 1) AV).fadr 22 (.ptr i1 0) _ = _
  simp only [B3, Bm, Bh, Dz, Dy, A2, B6, Pr.gT, Pr.gF, Pr.hT, Pr.hF, Pr.kT, Pr.kF, Ce, B7, Ca]
  refine Ah (Bl (c := Ai Dh a.fWants) B1 (A9 rfl) rfl (Dq ?_))
  congr 1
  funext t
  congr 1
  refine Ah (Bl (c := Ai Dh a.fWants) B1 (A9 rfl) rfl ?_)
  congr 1
  funext t2
  congr 1
  funext t3
  refine Ah (Bl (c := Ai Dh b.fWants) B2 (A9 rfl) rfl ?_)
  rfl
  skip
  exact Agq n hn ty a b H i1 i2 B1 B2 hl1 hq1 hl2 hq2
 have key := J5 (β := AV) Dh (L7) (by decide) (fun x => .agg (Dh x)) (fun p k => Ct true 2 p H k) (fun x r k => Sp 2 _ _ H k (L7 x)) (fun x y k => Nt .neq [1, 0] x y k) Ig (fun x y k => Aag _ _ _ _ (T5 x y) k) a.fWants b.fWants hq0 hl0 (fun m i => I5 (PR (n + 1) AV) (n + 1) (fun x H => Ba Ar E0.tp ty H x) m (.ptr i1 0) (.ptr i2 0) i H) (some bF) (some (sb (if Ia Nl a.fNames b.fNames then (if Ia Vc a.fCodes b.fCodes then (Fv a b) else false) else false))) hL a.fWants b.fWants [] [] (n + 1) rfl rfl rfl (by omega)
 simp only [zay, zaY] at key
 refine key.trans ?_
 cases Ia Ig a.fWants b.fWants <;> rfl
theorem Mg (n : Nat) (hn : 1048576 < n) (ty : Nat) (a : Az) (b : Az) (hl0 : a.fWants.length ≤ 1048576) (hl1 : a.fNames.length ≤ 1048576) (hl2 : a.fCodes.length ≤ 1048576) : Cs E0 (n + 2) ty 120 [.agg (Bd a), .agg (Bd b)] = some (.sc (.bool (C1 a b))) := by
 rw [Bb, Afr, f120]
 try simp only [C8, C2, B3, Bm, Bs, Bh, Dz, Dy, Fo, A2, B6, Pr.gT, Pr.gF, Pr.hT, Pr.hF, Pr.kT, Pr.kF, Ce, B7, Dj, Ca, Et, Dk, Cx, Bv, Bx, Ed, C6, D2, D5]
 refine Lk (Dv _) fun iB1 eB1 B1 => Lk (Dv _) fun iB2 eB2 B2 => ?_
 replace B1 := Jw B1 [⟨Bd b, true, true⟩]
 refine Ah (Bl (c := Ai Dh a.fWants) B1 (A9 rfl) rfl (Dq (Ah (Bl (c := Ai Dh b.fWants) B2 (A9 rfl) rfl (Dq (A4 (v := sb ((a.fWants.length : Int) != (b.fWants.length : Int))) (fun k => rfl) ?_))))))
 apply A8 (((a.fWants.length : Int) != (b.fWants.length : Int)) || ((a.fNames.length : Int) != (b.fNames.length : Int)))
 intro b3 q3
 refine Af (((a.fWants.length : Int) != (b.fWants.length : Int))) (fun h3 => ?_) fun h3 => ?_
 exact Da h3 (Da h3 (Da h3 (Da h3 (Da h3 (Da h3 (Da h3 (Cc h3 (mOT q3 h3) rfl)))))))
 exact C4 h3 (Ah (C4 h3 (Bl (c := Is a.fNames) B1 (A9 rfl) rfl (C4 h3 (Dq (C4 h3 (Ah (C4 h3 (Bl (c := Is b.fNames) B2 (A9 rfl) rfl (C4 h3 (Dq (C4 h3 (A4 (v := sb ((a.fNames.length : Int) != (b.fNames.length : Int))) (fun k => rfl) (Cb h3 (mOF q3 h3) rfl))))))))))))))
 intro b3 q3
 apply A8 (b3 || ((a.fCodes.length : Int) != (b.fCodes.length : Int)))
 intro b4 q4
 refine Af (b3) (fun h4 => ?_) fun h4 => ?_
 exact Da h4 (Da h4 (Da h4 (Da h4 (Da h4 (Da h4 (Da h4 (Cc h4 (mOT q4 h4) rfl)))))))
 exact C4 h4 (Ah (C4 h4 (Bl (c := Fz a.fCodes) B1 (A9 rfl) rfl (C4 h4 (Dq (C4 h4 (Ah (C4 h4 (Bl (c := Fz b.fCodes) B2 (A9 rfl) rfl (C4 h4 (Dq (C4 h4 (A4 (v := sb ((a.fCodes.length : Int) != (b.fCodes.length : Int))) (fun k => rfl) (Cb h4 (mOF q4 h4) rfl))))))))))))))
 intro b4 q4
 refine Af (b4) (fun h5 => ?_) fun h5 => ?_
 exact Fn h5 (E8 (by subst_vars; simp only [C1, Ke, Fs]; by_cases e0 : a.fWants.length = b.fWants.length <;> by_cases e1 : a.fNames.length = b.fNames.length <;> by_cases e2 : a.fCodes.length = b.fCodes.length <;> simp_all))
 refine Fy h5 ?_
 have l0 : a.fWants.length = b.fWants.length := by (subst_vars; simp at *; omega)
 have l1 : a.fNames.length = b.fNames.length := by (subst_vars; simp at *; omega)
 have l2 : a.fCodes.length = b.fCodes.length := by (subst_vars; simp at *; omega)
 refine (Agp n hn ty a b _ _ _ B1 B2 hl0 l0 hl1 l1 hl2 l2).trans ?_
 simp only [C1, Ke, Fs, l0, l1, l2, if_true]
 cases Ia Ig a.fWants b.fWants <;> cases Ia Nl a.fNames b.fNames <;> cases Ia Vc a.fCodes b.fCodes <;> simp
theorem Gp (n : Nat) (hn : 1048576 < n) (ty : Nat) (a : Az) (b : Az) (hl0 : a.fWants.length ≤ 1048576) (hl1 : a.fNames.length ≤ 1048576) (hl2 : a.fCodes.length ≤ 1048576) : Cs E0 (n + 2) ty 20 [.agg (Bd a), .agg (Bd b)] = some (.sc (.bool (C1 a b))) := by
 rw [Bb, Ahx, f20]
 try simp only [C8, C2, B3, Bm, Bs, Bh, Dz, Dy, Fo, A2, B6, Pr.gT, Pr.gF, Pr.hT, Pr.hF, Pr.kT, Pr.kF, Ce, B7, Dj, Ca, Et, Dk, Cx, Bv, Bx, Ed, C6, D2, D5]
 refine Lk (Dv _) fun iB1 eB1 B1 => Lk (Dv _) fun iB2 eB2 B2 => ?_
 replace B1 := Jw B1 [⟨Bd b, true, true⟩]
 refine Ah (Bl (c := si a.fType) B1 (A9 rfl) rfl (Ah (Bl (c := si b.fType) B2 (A9 rfl) rfl (A4 (v := sb (a.fType == b.fType)) (fun k => rfl) ?_))))
 apply A8 ((a.fType == b.fType) && (a.fDup == b.fDup))
 intro b3 q3
 refine Af ((a.fType == b.fType)) (fun h3 => ?_) fun h3 => ?_
 exact An h3 (Ah (An h3 (Bl (c := sb a.fDup) B1 (A9 rfl) rfl (An h3 (Ah (An h3 (Bl (c := sb b.fDup) B2 (A9 rfl) rfl (An h3 (G5 (v := sb (a.fDup == b.fDup)) (fun k => rfl) (Cc h3 (Hd q3 h3) rfl))))))))))
 exact Ao h3 (Ao h3 (Ao h3 (Ao h3 (Ao h3 (Cb h3 (Hb q3 h3) rfl)))))
 intro b3 q3
 apply A8 (b3 && (a.fQos == b.fQos))
 intro b4 q4
 refine Af (b3) (fun h4 => ?_) fun h4 => ?_
 exact An h4 (Ah (An h4 (Bl (c := si a.fQos) B1 (A9 rfl) rfl (An h4 (Ah (An h4 (Bl (c := si b.fQos) B2 (A9 rfl) rfl (An h4 (A4 (v := sb (a.fQos == b.fQos)) (fun k => rfl) (Cc h4 (Hd q4 h4) rfl))))))))))
 exact Ao h4 (Ao h4 (Ao h4 (Ao h4 (Ao h4 (Cb h4 (Hb q4 h4) rfl)))))
 intro b4 q4
 apply A8 (b4 && (a.fRetain == b.fRetain))
 intro b5 q5
 refine Af (b4) (fun h5 => ?_) fun h5 => ?_
 exact An h5 (Ah (An h5 (Bl (c := sb a.fRetain) B1 (A9 rfl) rfl (An h5 (Ah (An h5 (Bl (c := sb b.fRetain) B2 (A9 rfl) rfl (An h5 (G5 (v := sb (a.fRetain == b.fRetain)) (fun k => rfl) (Cc h5 (Hd q5 h5) rfl))))))))))
 exact Ao h5 (Ao h5 (Ao h5 (Ao h5 (Ao h5 (Cb h5 (Hb q5 h5) rfl)))))
 intro b5 q5
 apply A8 (b5 && (a.fId == b.fId))
 intro b6 q6
 refine Af (b5) (fun h6 => ?_) fun h6 => ?_
 exact An h6 (Ah (An h6 (Bl (c := si a.fId) B1 (A9 rfl) rfl (An h6 (Ah (An h6 (Bl (c := si b.fId) B2 (A9 rfl) rfl (An h6 (A4 (v := sb (a.fId == b.fId)) (fun k => rfl) (Cc h6 (Hd q6 h6) rfl))))))))))
 exact Ao h6 (Ao h6 (Ao h6 (Ao h6 (Ao h6 (Cb h6 (Hb q6 h6) rfl)))))
 intro b6 q6
 apply A8 (b6 && (a.fTopic.toList == b.fTopic.toList))
 intro b7 q7
 refine Af (b6) (fun h7 => ?_) fun h7 => ?_
 exact An h7 (Ah (An h7 (Bl (c := ss a.fTopic) B1 (A9 rfl) rfl (An h7 (Ah (An h7 (Bl (c := ss b.fTopic) B2 (A9 rfl) rfl (An h7 (A4 (v := sb (a.fTopic.toList == b.fTopic.toList)) (fun k => rfl) (Cc h7 (Hd q7 h7) rfl))))))))))
 exact Ao h7 (Ao h7 (Ao h7 (Ao h7 (Ao h7 (Cb h7 (Hb q7 h7) rfl)))))
 intro b7 q7
 apply A8 (b7 && (a.fBody.toList == b.fBody.toList))
 intro b8 q8
 refine Af (b7) (fun h8 => ?_) fun h8 => ?_
 exact An h8 (Ah (An h8 (Bl (c := A3 a.fBody) B1 (A9 rfl) rfl (An h8 (Ah (An h8 (Bl (c := A3 b.fBody) B2 (A9 rfl) rfl (An h8 (D0 rfl (Bq (Ez _ _ _) (Bq (Ez _ _ _) D1)) (Mn (n + 0) _ a.fBody b.fBody) (Cc h8 (Hd q8 h8) rfl))))))))))
 exact Ao h8 (Ao h8 (Ao h8 (Ao h8 (Ao h8 (Cb h8 (Hb q8 h8) rfl)))))
 intro b8 q8
 refine Ah (Bl (c := ss a.fClient) B1 (A9 rfl) rfl (Ah (Bl (c := ss b.fClient) B2 (A9 rfl) rfl (A4 (v := sb (a.fClient.toList == b.fClient.toList)) (fun k => rfl) ?_))))
 apply A8 ((a.fClient.toList == b.fClient.toList) && (a.fLevel == b.fLevel))
 intro b9 q9
 refine Af ((a.fClient.toList == b.fClient.toList)) (fun h9 => ?_) fun h9 => ?_
 exact An h9 (Ah (An h9 (Bl (c := si a.fLevel) B1 (A9 rfl) rfl (An h9 (Ah (An h9 (Bl (c := si b.fLevel) B2 (A9 rfl) rfl (An h9 (A4 (v := sb (a.fLevel == b.fLevel)) (fun k => rfl) (Cc h9 (Hd q9 h9) rfl))))))))))
 exact Ao h9 (Ao h9 (Ao h9 (Ao h9 (Ao h9 (Cb h9 (Hb q9 h9) rfl)))))
 intro b9 q9
 apply A8 (b9 && (a.fClean == b.fClean))
 intro b10 q10
 refine Af (b9) (fun h10 => ?_) fun h10 => ?_
 exact An h10 (Ah (An h10 (Bl (c := sb a.fClean) B1 (A9 rfl) rfl (An h10 (Ah (An h10 (Bl (c := sb b.fClean) B2 (A9 rfl) rfl (An h10 (G5 (v := sb (a.fClean == b.fClean)) (fun k => rfl) (Cc h10 (Hd q10 h10) rfl))))))))))
 exact Ao h10 (Ao h10 (Ao h10 (Ao h10 (Ao h10 (Cb h10 (Hb q10 h10) rfl)))))
 intro b10 q10
 apply A8 (b10 && (a.fKeep == b.fKeep))
 intro b11 q11
 refine Af (b10) (fun h11 => ?_) fun h11 => ?_
 exact An h11 (Ah (An h11 (Bl (c := si a.fKeep) B1 (A9 rfl) rfl (An h11 (Ah (An h11 (Bl (c := si b.fKeep) B2 (A9 rfl) rfl (An h11 (A4 (v := sb (a.fKeep == b.fKeep)) (fun k => rfl) (Cc h11 (Hd q11 h11) rfl))))))))))
 exact Ao h11 (Ao h11 (Ao h11 (Ao h11 (Ao h11 (Cb h11 (Hb q11 h11) rfl)))))
 intro b11 q11
 apply A8 (b11 && (a.fHasUser == b.fHasUser))
 intro b12 q12
 refine Af (b11) (fun h12 => ?_) fun h12 => ?_
 exact An h12 (Ah (An h12 (Bl (c := sb a.fHasUser) B1 (A9 rfl) rfl (An h12 (Ah (An h12 (Bl (c := sb b.fHasUser) B2 (A9 rfl) rfl (An h12 (G5 (v := sb (a.fHasUser == b.fHasUser)) (fun k => rfl) (Cc h12 (Hd q12 h12) rfl))))))))))
 exact Ao h12 (Ao h12 (Ao h12 (Ao h12 (Ao h12 (Cb h12 (Hb q12 h12) rfl)))))
 intro b12 q12
 apply A8 (b12 && (a.fUser.toList == b.fUser.toList))
 intro b13 q13
 refine Af (b12) (fun h13 => ?_) fun h13 => ?_
 exact An h13 (Ah (An h13 (Bl (c := ss a.fUser) B1 (A9 rfl) rfl (An h13 (Ah (An h13 (Bl (c := ss b.fUser) B2 (A9 rfl) rfl (An h13 (A4 (v := sb (a.fUser.toList == b.fUser.toList)) (fun k => rfl) (Cc h13 (Hd q13 h13) rfl))))))))))
 exact Ao h13 (Ao h13 (Ao h13 (Ao h13 (Ao h13 (Cb h13 (Hb q13 h13) rfl)))))
 intro b13 q13
 apply A8 (b13 && (a.fHasPass == b.fHasPass))
 intro b14 q14
 refine Af (b13) (fun h14 => ?_) fun h14 => ?_
 exact An h14 (Ah (An h14 (Bl (c := sb a.fHasPass) B1 (A9 rfl) rfl (An h14 (Ah (An h14 (Bl (c := sb b.fHasPass) B2 (A9 rfl) rfl (An h14 (G5 (v := sb (a.fHasPass == b.fHasPass)) (fun k => rfl) (Cc h14 (Hd q14 h14) rfl))))))))))
 exact Ao h14 (Ao h14 (Ao h14 (Ao h14 (Ao h14 (Cb h14 (Hb q14 h14) rfl)))))
 intro b14 q14
 apply A8 (b14 && (a.fPass.toList == b.fPass.toList))
 intro b15 q15
 refine Af (b14) (fun h15 => ?_) fun h15 => ?_
 exact An h15 (Ah (An h15 (Bl (c := A3 a.fPass) B1 (A9 rfl) rfl (An h15 (Ah (An h15 (Bl (c := A3 b.fPass) B2 (A9 rfl) rfl (An h15 (D0 rfl (Bq (Ez _ _ _) (Bq (Ez _ _ _) D1)) (Mn (n + 0) _ a.fPass b.fPass) (Cc h15 (Hd q15 h15) rfl))))))))))
 exact Ao h15 (Ao h15 (Ao h15 (Ao h15 (Ao h15 (Cb h15 (Hb q15 h15) rfl)))))
 intro b15 q15
 refine Ah (Bl (c := sb a.fHasWill) B1 (A9 rfl) rfl (Ah (Bl (c := sb b.fHasWill) B2 (A9 rfl) rfl (G5 (v := sb (a.fHasWill == b.fHasWill)) (fun k => rfl) ?_))))
 apply A8 ((a.fHasWill == b.fHasWill) && (a.fWTopic.toList == b.fWTopic.toList))
 intro b16 q16
 refine Af ((a.fHasWill == b.fHasWill)) (fun h16 => ?_) fun h16 => ?_
 exact An h16 (Ah (An h16 (Bl (c := ss a.fWTopic) B1 (A9 rfl) rfl (An h16 (Ah (An h16 (Bl (c := ss b.fWTopic) B2 (A9 rfl) rfl (An h16 (A4 (v := sb (a.fWTopic.toList == b.fWTopic.toList)) (fun k => rfl) (Cc h16 (Hd q16 h16) rfl))))))))))
 exact Ao h16 (Ao h16 (Ao h16 (Ao h16 (Ao h16 (Cb h16 (Hb q16 h16) rfl)))))
 intro b16 q16
 apply A8 (b16 && (a.fWBody.toList == b.fWBody.toList))
 intro b17 q17
 refine Af (b16) (fun h17 => ?_) fun h17 => ?_
 exact An h17 (Ah (An h17 (Bl (c := A3 a.fWBody) B1 (A9 rfl) rfl (An h17 (Ah (An h17 (Bl (c := A3 b.fWBody) B2 (A9 rfl) rfl (An h17 (D0 rfl (Bq (Ez _ _ _) (Bq (Ez _ _ _) D1)) (Mn (n + 0) _ a.fWBody b.fWBody) (Cc h17 (Hd q17 h17) rfl))))))))))
 exact Ao h17 (Ao h17 (Ao h17 (Ao h17 (Ao h17 (Cb h17 (Hb q17 h17) rfl)))))
 intro b17 q17
 apply A8 (b17 && (a.fWQos == b.fWQos))
 intro b18 q18
 refine Af (b17) (fun h18 => ?_) fun h18 => ?_
 exact An h18 (Ah (An h18 (Bl (c := si a.fWQos) B1 (A9 rfl) rfl (An h18 (Ah (An h18 (Bl (c := si b.fWQos) B2 (A9 rfl) rfl (An h18 (A4 (v := sb (a.fWQos == b.fWQos)) (fun k => rfl) (Cc h18 (Hd q18 h18) rfl))))))))))
 exact Ao h18 (Ao h18 (Ao h18 (Ao h18 (Ao h18 (Cb h18 (Hb q18 h18) rfl)))))
 intro b18 q18
 apply A8 (b18 && (a.fWRetain == b.fWRetain))
 intro b19 q19
 refine Af (b18) (fun h19 => ?_) fun h19 => ?_
 exact An h19 (Ah (An h19 (Bl (c := sb a.fWRetain) B1 (A9 rfl) rfl (An h19 (Ah (An h19 (Bl (c := sb b.fWRetain) B2 (A9 rfl) rfl (An h19 (G5 (v := sb (a.fWRetain == b.fWRetain)) (fun k => rfl) (Cc h19 (Hd q19 h19) rfl))))))))))
 exact Ao h19 (Ao h19 (Ao h19 (Ao h19 (Ao h19 (Cb h19 (Hb q19 h19) rfl)))))
 intro b19 q19
 refine Ah (Bl (c := Ai Dh a.fWants) B1 (A9 rfl) rfl (Ah (Bl (c := Ai Dh b.fWants) B2 (A9 rfl) rfl (D0 rfl (Bq (Ez _ _ _) (Bq (Ez _ _ _) D1)) (Yu (n + 0) (by omega) _ a.fWants b.fWants (by omega)) ?_))))
 apply A8 ((Fs Ig a.fWants b.fWants) && (Fs Nl a.fNames b.fNames))
 intro b20 q20
 refine Af ((Fs Ig a.fWants b.fWants)) (fun h20 => ?_) fun h20 => ?_
 exact An h20 (Ah (An h20 (Bl (c := Is a.fNames) B1 (A9 rfl) rfl (An h20 (Ah (An h20 (Bl (c := Is b.fNames) B2 (A9 rfl) rfl (An h20 (D0 rfl (Bq (Ez _ _ _) (Bq (Ez _ _ _) D1)) (Abh (n + 0) (by omega) _ a.fNames b.fNames (by omega)) (Cc h20 (Hd q20 h20) rfl))))))))))
 exact Ao h20 (Ao h20 (Ao h20 (Ao h20 (Ao h20 (Cb h20 (Hb q20 h20) rfl)))))
 intro b20 q20
 apply A8 (b20 && (Fs Vc a.fCodes b.fCodes))
 intro b21 q21
 refine Af (b20) (fun h21 => ?_) fun h21 => ?_
 exact An h21 (Ah (An h21 (Bl (c := Fz a.fCodes) B1 (A9 rfl) rfl (An h21 (Ah (An h21 (Bl (c := Fz b.fCodes) B2 (A9 rfl) rfl (An h21 (D0 rfl (Bq (Ez _ _ _) (Bq (Ez _ _ _) D1)) (Abg (n + 0) (by omega) _ a.fCodes b.fCodes (by omega)) (Cc h21 (Hd q21 h21) rfl))))))))))
 exact Ao h21 (Ao h21 (Ao h21 (Ao h21 (Ao h21 (Cb h21 (Hb q21 h21) rfl)))))
 intro b21 q21
 apply A8 (b8 && b15)
 intro b22 q22
 refine Af (b8) (fun h22 => ?_) fun h22 => ?_
 exact An h22 (Cc h22 (Hd q22 h22) rfl)
 exact Ao h22 (Cb h22 (Hb q22 h22) rfl)
 intro b22 q22
 apply A8 (b22 && b19)
 intro b23 q23
 refine Af (b22) (fun h23 => ?_) fun h23 => ?_
 exact An h23 (Cc h23 (Hd q23 h23) rfl)
 exact Ao h23 (Cb h23 (Hb q23 h23) rfl)
 intro b23 q23
 apply A8 (b23 && b21)
 intro b24 q24
 refine Af (b23) (fun h24 => ?_) fun h24 => ?_
 exact An h24 (Cc h24 (Hd q24 h24) rfl)
 exact Ao h24 (Cb h24 (Hb q24 h24) rfl)
 intro b24 q24
 apply A8 (b24 && (a.fCode == b.fCode))
 intro b25 q25
 refine Af (b24) (fun h25 => ?_) fun h25 => ?_
 exact An h25 (Ah (An h25 (Bl (c := si a.fCode) B1 (A9 rfl) rfl (An h25 (Ah (An h25 (Bl (c := si b.fCode) B2 (A9 rfl) rfl (An h25 (A4 (v := sb (a.fCode == b.fCode)) (fun k => rfl) (Cc h25 (Hd q25 h25) rfl))))))))))
 exact Ao h25 (Ao h25 (Ao h25 (Ao h25 (Ao h25 (Cb h25 (Hb q25 h25) rfl)))))
 intro b25 q25
 apply A8 (b25 && (a.fPresent == b.fPresent))
 intro b26 q26
 refine Af (b25) (fun h26 => ?_) fun h26 => ?_
 exact An h26 (Ah (An h26 (Bl (c := sb a.fPresent) B1 (A9 rfl) rfl (An h26 (Ah (An h26 (Bl (c := sb b.fPresent) B2 (A9 rfl) rfl (An h26 (G5 (v := sb (a.fPresent == b.fPresent)) (fun k => rfl) (Cc h26 (Hd q26 h26) rfl))))))))))
 exact Ao h26 (Ao h26 (Ao h26 (Ao h26 (Ao h26 (Cb h26 (Hb q26 h26) rfl)))))
 intro b26 q26
 exact E8 (by subst_vars; simp only [C1, Ke, Fv]; ac_rfl)
end
end Go.Proofs.YtdofipeaomgbbaaGreatDoor.Abs
set_option maxHeartbeats 32000000
namespace Go.Proofs.YtdofipeaomgbbaaGreatDoor.Abs
open _root_.Option renaming bind_eq_some_iff → zaa, bind_some → zab, getD_some → zaC
open _root_.List renaming getElem?_eq_some_iff → zac, replicate → zad, getElem?_append_right → zae, getElem?_append_left → zaf, length_append → zag, nil_append → zah, append_assoc → zaj, append_nil → zan, length_singleton → zao, mem_append_right → zap, cons_append → zar, mem_append_left → zas, mem_cons_of_mem → zat, map_cons → zau, length_cons → zav, flatten_append → zax, length_nil → zay, take_length → za0, getElem?_set_ne → za1, mem_cons → za2, all_eq_true → za3, map_append → za5, length_take → za6, mem_cons_self → za8, drop_zero → zaA, replicate_append_replicate → zaB, flatten_cons → zaE, length_drop → zaF, nodup_cons → zaH, mem_append → zaJ, nodup_append → zaP, mem_range'_1 → zaQ, drop_drop → zaV, nodup_range' → zbb, drop_of_length_le → zbe, getElem?_set_self → zbf, any_cons → zbg, length_set → zbh, all_cons → zbj, range' → zbk, map_nil → zbs, take_of_length_le → zbv, nodup_nil → zb3, headD_cons → zbB, length_map → zbC, tail_cons → zbG, drop_take → zbH, take_take → zbI, take_zero → zbM
open _root_.Bool renaming false_eq_true → zal, eq_iff_iff → zbi, false_or → zbq
open _root_.Nat renaming le_refl → zak, zero_add → zaw, le_trans → zaz, mul_le_mul_right → za7, min_eq_left → zaK, add_mul → zaM, zero_le → zaN, sub_self → zaO, add_assoc → zaS, add_zero → zbd, one_mul → zbt, add_comm → zbK, succ_mul → zbN
open _root_.Int renaming natCast_zero → zaY
section
open Go
def Fd (t : Int) : Az := ⟨t, false, 0, false, 0, ⟨#[]⟩, ⟨#[]⟩, ⟨#[]⟩, 0, false, 0, false, ⟨#[]⟩, ⟨#[]⟩, 0, false, false, ⟨#[]⟩, false, ⟨#[]⟩, 0, false, [], [], []⟩
def Df (p q : Az) : Az := if p.fHasWill then { q with fHasWill := true, fWTopic := p.fWTopic, fWBody := p.fWBody, fWQos := p.fWQos, fWRetain := p.fWRetain } else q
def De (p q : Az) : Az := if p.fHasUser then (if p.fHasPass then { q with fHasUser := true, fUser := p.fUser, fHasPass := true, fPass := p.fPass } else { q with fHasUser := true, fUser := p.fUser }) else q
def Bc (pc : Bool) (p : Az) : Az :=
 if p.fType = 1 then De p (Df p { Fd p.fType with fClient := p.fClient, fLevel := p.fLevel, fClean := p.fClean, fKeep := p.fKeep })
 else if p.fType = 2 then { Fd p.fType with fCode := p.fCode, fPresent := p.fPresent && (!pc || decide (p.fCode = 0)) }
 else if p.fType = 3 then (if 0 < p.fQos then { Fd p.fType with fQos := p.fQos, fRetain := p.fRetain, fTopic := p.fTopic, fBody := p.fBody, fDup := p.fDup, fId := p.fId } else { Fd p.fType with fQos := p.fQos, fRetain := p.fRetain, fTopic := p.fTopic, fBody := p.fBody })
 else if p.fType = 4 ∨ p.fType = 5 ∨ p.fType = 6 ∨ p.fType = 7 ∨ p.fType = 11 then { Fd p.fType with fId := p.fId }
 else if p.fType = 8 then { Fd p.fType with fId := p.fId, fWants := p.fWants }
 else if p.fType = 9 then { Fd p.fType with fId := p.fId, fCodes := p.fCodes }
 else if p.fType = 10 then { Fd p.fType with fId := p.fId, fNames := p.fNames }
 else Fd p.fType
theorem L4 (n : Nat) (hn : 1048576 < n) (p : Az) {β : Type} {G : Option β → Prop} {KH : KO β} {H : Ab} {L : List Ck} (s0 : Sep H (L)) (hk : ∀ raw H', (∀ L', VwL L' 7 raw (Bd (Bc false p))) → Sep H' L → Gd G (KH (.agg raw) H')) : Gd G (Di E0 (n + 1) β 54 [.agg (Bd p)] H fun x H => KH x H) := by
 rw [AhD, f54]
 try simp only [C8, C2, B3, Bm, Bs, Bh, A2, Bx, V6, Aac]
 refine Ms s0 (F8 (Dv _)) fun i1 H s2 => Dc s2 fun i3 H s4 => gf0 (A0 (c := si p.fType) s4 A1 rfl (Bk (cs := [si p.fType, bF, i0, bF, i0, sE, .nl, sE, i0, bF, i0, bF, sE, .nl, i0, bF, bF, sE, bF, .nl, i0, bF, .nl, .nl, .nl]) rfl (Dc s4 fun i5 H s6 => Bg (cs' := [si p.fType, bF, i0, bF, i0, sE, .nl, sE, i0, bF, i0, bF, sE, .nl, i0, bF, bF, sE, bF, .nl, i0, bF, .nl, .nl, .nl]) s6 (.here) (Ac rfl) rfl (A9 rfl) rfl fun H s7 => gf0 (A0 (c := si p.fType) s7 Bu rfl (Bp (Af ((decide (p.fType = 1))) (fun h8 => ?_) fun h8 => ?_))))))
 refine Ci h8 (gf7 (A0 (c := ss p.fClient) s7 Bu rfl (gf8 (gf9 (AfN (Aej (Wt (gf7 (Fk s7 Bu (V2 (.here)) (A0 (c := si p.fLevel) s7 Bu rfl (Fk s7 Bu (V2 (.here)) (A0 (c := sb p.fClean) s7 Bu rfl (Fk s7 Bu (V2 (.here)) (A0 (c := si p.fKeep) s7 Bu rfl (Fk s7 Bu (V2 (.here)) (A0 (c := sb p.fHasWill) s7 Bu rfl (Fk s7 Bu (V2 (.here)) (A0 (c := sb p.fHasUser) s7 Bu rfl (Gw (B0 s7 (.here) rfl rfl fun H s9 => gf8 (Gw (B0 s9 (.here) rfl rfl fun H s10 => gf9 (Gw (B0 s10 (.here) rfl rfl fun H s11 => AfN (Gw (B0 s11 (.here) rfl rfl fun H s12 => Aej (Gw (B0 s12 (.here) rfl rfl fun H s13 => Wt (B0 s13 (.here) rfl rfl fun H s14 => Aej (A0 (c := sb p.fHasWill) s14 Bu rfl (Hw (Af (p.fHasWill) (fun h15 => ?_) fun h15 => ?_))))))))))))))))))))))))))))))))
 refine Ci h15 (AfO (A0 (c := ss p.fWTopic) s14 Bu rfl (AfP (AfQ (AfR (AfO (Fk s14 Bu (V2 (.here)) (A0 (c := A3 p.fWBody) s14 Bu rfl (Fk s14 Bu (V2 (.here)) (A0 (c := si p.fWQos) s14 Bu rfl (Fk s14 Bu (V2 (.here)) (A0 (c := sb p.fWRetain) s14 Bu rfl (Gw (B0 s14 (.here) rfl rfl fun H s16 => AfP (Gw (B0 s16 (.here) rfl rfl fun H s17 => AfQ (Gw (B0 s17 (.here) rfl rfl fun H s18 => AfR (B0 s18 (.here) rfl rfl fun H s19 => Wt (A0 (c := sb p.fHasUser) s19 Bu rfl (Hw (Af (p.fHasUser) (fun h20 => ?_) fun h20 => ?_))))))))))))))))))))))
 refine Ci h20 (Wu (A0 (c := ss p.fUser) s19 Bu rfl (Qx (Wu (Fk s19 Bu (V2 (.here)) (A0 (c := sb p.fHasPass) s19 Bu rfl (Gw (B0 s19 (.here) rfl rfl fun H s21 => Qx (B0 s21 (.here) rfl rfl fun H s22 => Qx (A0 (c := sb p.fHasPass) s22 (.here) rfl (Af (p.fHasPass) (fun h23 => ?_) fun h23 => ?_)))))))))))
 refine Ci h23 (Wv (A0 (c := A3 p.fPass) s22 Bu rfl (Wv (B0 s22 (.here) rfl rfl fun H s24 => Ae s24 (.here) rfl (Bg (cs' := [si p.fType, bF, i0, bF, i0, sE, .nl, ss p.fClient, si p.fLevel, sb p.fClean, si p.fKeep, sb p.fHasWill, ss p.fWTopic, A3 p.fWBody, si p.fWQos, sb p.fWRetain, sb p.fHasUser, ss p.fUser, sb p.fHasPass, A3 p.fPass, i0, bF, .nl, .nl, .nl]) s24 A1 (Ac rfl) rfl (A9 rfl) rfl fun H s25 => Ae s25 (.here) rfl ?_)))))
 have e : Bc false p = (⟨p.fType, false, 0, false, 0, ⟨#[]⟩, ⟨#[]⟩, p.fClient, p.fLevel, p.fClean, p.fKeep, p.fHasWill, p.fWTopic, p.fWBody, p.fWQos, p.fWRetain, p.fHasUser, p.fUser, p.fHasPass, p.fPass, 0, false, [], [], []⟩ : Az) := by
  simp only [F4] at h8 h15 h20 h23
  simp [Bc, Df, De, Fd, h8, h15, h20, h23]
 rw [e] at hk
 exact hk _ _ (fun L' => (F6 (.cons .nl (F6 (.cons .ro (K5 (.cons .ro (Hz (.cons .nl (.cons .nl (.cons .nl .nil))))))))))) s25.tail.tail.tail
 refine Bt h23 (Ae s22 (.here) rfl (Bg (cs' := [si p.fType, bF, i0, bF, i0, sE, .nl, ss p.fClient, si p.fLevel, sb p.fClean, si p.fKeep, sb p.fHasWill, ss p.fWTopic, A3 p.fWBody, si p.fWQos, sb p.fWRetain, sb p.fHasUser, ss p.fUser, sb p.fHasPass, .nl, i0, bF, .nl, .nl, .nl]) s22 A1 (Ac rfl) rfl (A9 rfl) rfl fun H s26 => Ae s26 (.here) rfl ?_))
 have e : Bc false p = (⟨p.fType, false, 0, false, 0, ⟨#[]⟩, ⟨#[]⟩, p.fClient, p.fLevel, p.fClean, p.fKeep, p.fHasWill, p.fWTopic, p.fWBody, p.fWQos, p.fWRetain, p.fHasUser, p.fUser, p.fHasPass, ⟨#[]⟩, 0, false, [], [], []⟩ : Az) := by
  simp only [F4] at h8 h15 h20 h23
  simp [Bc, Df, De, Fd, h8, h15, h20, h23]
 rw [e] at hk
 exact hk _ _ (fun L' => (F6 (.cons .nl (F6 (.cons .ro (K5 (.cons .nl (Hz (.cons .nl (.cons .nl (.cons .nl .nil))))))))))) s26.tail.tail.tail
 refine Bt h20 (Qx (A0 (c := bF) s19 (.here) rfl (Bt rfl (Ae s19 (.here) rfl (Bg (cs' := [si p.fType, bF, i0, bF, i0, sE, .nl, ss p.fClient, si p.fLevel, sb p.fClean, si p.fKeep, sb p.fHasWill, ss p.fWTopic, A3 p.fWBody, si p.fWQos, sb p.fWRetain, sb p.fHasUser, sE, bF, .nl, i0, bF, .nl, .nl, .nl]) s19 A1 (Ac rfl) rfl (A9 rfl) rfl fun H s27 => Ae s27 (.here) rfl ?_)))))
 have e : Bc false p = (⟨p.fType, false, 0, false, 0, ⟨#[]⟩, ⟨#[]⟩, p.fClient, p.fLevel, p.fClean, p.fKeep, p.fHasWill, p.fWTopic, p.fWBody, p.fWQos, p.fWRetain, p.fHasUser, ⟨#[]⟩, false, ⟨#[]⟩, 0, false, [], [], []⟩ : Az) := by
  simp only [F4] at h8 h15 h20
  simp [Bc, Df, De, Fd, h8, h15, h20]
 rw [e] at hk
 exact hk _ _ (fun L' => (F6 (.cons .nl (F6 (.cons .ro (K5 (.cons .nl (Hz (.cons .nl (.cons .nl (.cons .nl .nil))))))))))) s27.tail.tail.tail
 refine Bt h15 (Wt (A0 (c := sb p.fHasUser) s14 Bu rfl (Hw (Af (p.fHasUser) (fun h28 => ?_) fun h28 => ?_))))
 refine Ci h28 (Wu (A0 (c := ss p.fUser) s14 Bu rfl (Qx (Wu (Fk s14 Bu (V2 (.here)) (A0 (c := sb p.fHasPass) s14 Bu rfl (Gw (B0 s14 (.here) rfl rfl fun H s29 => Qx (B0 s29 (.here) rfl rfl fun H s30 => Qx (A0 (c := sb p.fHasPass) s30 (.here) rfl (Af (p.fHasPass) (fun h31 => ?_) fun h31 => ?_)))))))))))
 refine Ci h31 (Wv (A0 (c := A3 p.fPass) s30 Bu rfl (Wv (B0 s30 (.here) rfl rfl fun H s32 => Ae s32 (.here) rfl (Bg (cs' := [si p.fType, bF, i0, bF, i0, sE, .nl, ss p.fClient, si p.fLevel, sb p.fClean, si p.fKeep, sb p.fHasWill, sE, .nl, i0, bF, sb p.fHasUser, ss p.fUser, sb p.fHasPass, A3 p.fPass, i0, bF, .nl, .nl, .nl]) s32 A1 (Ac rfl) rfl (A9 rfl) rfl fun H s33 => Ae s33 (.here) rfl ?_)))))
 have e : Bc false p = (⟨p.fType, false, 0, false, 0, ⟨#[]⟩, ⟨#[]⟩, p.fClient, p.fLevel, p.fClean, p.fKeep, p.fHasWill, ⟨#[]⟩, ⟨#[]⟩, 0, false, p.fHasUser, p.fUser, p.fHasPass, p.fPass, 0, false, [], [], []⟩ : Az) := by
  simp only [F4] at h8 h15 h28 h31
  simp [Bc, Df, De, Fd, h8, h15, h28, h31]
 rw [e] at hk
 exact hk _ _ (fun L' => (F6 (.cons .nl (F6 (.cons .nl (K5 (.cons .ro (Hz (.cons .nl (.cons .nl (.cons .nl .nil))))))))))) s33.tail.tail.tail
 refine Bt h31 (Ae s30 (.here) rfl (Bg (cs' := [si p.fType, bF, i0, bF, i0, sE, .nl, ss p.fClient, si p.fLevel, sb p.fClean, si p.fKeep, sb p.fHasWill, sE, .nl, i0, bF, sb p.fHasUser, ss p.fUser, sb p.fHasPass, .nl, i0, bF, .nl, .nl, .nl]) s30 A1 (Ac rfl) rfl (A9 rfl) rfl fun H s34 => Ae s34 (.here) rfl ?_))
 have e : Bc false p = (⟨p.fType, false, 0, false, 0, ⟨#[]⟩, ⟨#[]⟩, p.fClient, p.fLevel, p.fClean, p.fKeep, p.fHasWill, ⟨#[]⟩, ⟨#[]⟩, 0, false, p.fHasUser, p.fUser, p.fHasPass, ⟨#[]⟩, 0, false, [], [], []⟩ : Az) := by
  simp only [F4] at h8 h15 h28 h31
  simp [Bc, Df, De, Fd, h8, h15, h28, h31]
 rw [e] at hk
 exact hk _ _ (fun L' => (F6 (.cons .nl (F6 (.cons .nl (K5 (.cons .nl (Hz (.cons .nl (.cons .nl (.cons .nl .nil))))))))))) s34.tail.tail.tail
 refine Bt h28 (Qx (A0 (c := bF) s14 (.here) rfl (Bt rfl (Ae s14 (.here) rfl (Bg (cs' := [si p.fType, bF, i0, bF, i0, sE, .nl, ss p.fClient, si p.fLevel, sb p.fClean, si p.fKeep, sb p.fHasWill, sE, .nl, i0, bF, sb p.fHasUser, sE, bF, .nl, i0, bF, .nl, .nl, .nl]) s14 A1 (Ac rfl) rfl (A9 rfl) rfl fun H s35 => Ae s35 (.here) rfl ?_)))))
 have e : Bc false p = (⟨p.fType, false, 0, false, 0, ⟨#[]⟩, ⟨#[]⟩, p.fClient, p.fLevel, p.fClean, p.fKeep, p.fHasWill, ⟨#[]⟩, ⟨#[]⟩, 0, false, p.fHasUser, ⟨#[]⟩, false, ⟨#[]⟩, 0, false, [], [], []⟩ : Az) := by
  simp only [F4] at h8 h15 h28
  simp [Bc, Df, De, Fd, h8, h15, h28]
 rw [e] at hk
 exact hk _ _ (fun L' => (F6 (.cons .nl (F6 (.cons .nl (K5 (.cons .nl (Hz (.cons .nl (.cons .nl (.cons .nl .nil))))))))))) s35.tail.tail.tail
 refine Bt h8 (Bp (Af ((decide (p.fType = 2))) (fun h36 => ?_) fun h36 => ?_))
 refine Ci h36 (Aek (A0 (c := si p.fCode) s7 Bu rfl (Ael (Aek (Fk s7 Bu (V2 (.here)) (A0 (c := sb p.fPresent) s7 Bu rfl (Gw (B0 s7 (.here) rfl rfl fun H s37 => Ael (B0 s37 (.here) rfl rfl fun H s38 => Ae s38 (.here) rfl (Bg (cs' := [si p.fType, bF, i0, bF, i0, sE, .nl, sE, i0, bF, i0, bF, sE, .nl, i0, bF, bF, sE, bF, .nl, si p.fCode, sb p.fPresent, .nl, .nl, .nl]) s38 A1 (Ac rfl) rfl (A9 rfl) rfl fun H s39 => Ae s39 (.here) rfl ?_))))))))))
 have e : Bc false p = (⟨p.fType, false, 0, false, 0, ⟨#[]⟩, ⟨#[]⟩, ⟨#[]⟩, 0, false, 0, false, ⟨#[]⟩, ⟨#[]⟩, 0, false, false, ⟨#[]⟩, false, ⟨#[]⟩, p.fCode, p.fPresent, [], [], []⟩ : Az) := by
  simp only [F4] at h8 h36
  simp [Bc, Df, De, Fd, h8, h36]
 rw [e] at hk
 exact hk _ _ (fun L' => (F6 (.cons .nl (F6 (.cons .nl (K5 (.cons .nl (Hz (.cons .nl (.cons .nl (.cons .nl .nil))))))))))) s39.tail.tail.tail
 refine Bt h36 (Bp (Af ((decide (p.fType = 3))) (fun h40 => ?_) fun h40 => ?_))
 refine Ci h40 (gf2 (A0 (c := si p.fQos) s7 Bu rfl (gf3 (gf5 (gf6 (gf2 (Fk s7 Bu (V2 (.here)) (A0 (c := sb p.fRetain) s7 Bu rfl (Fk s7 Bu (V2 (.here)) (A0 (c := ss p.fTopic) s7 Bu rfl (Fk s7 Bu (V2 (.here)) (A0 (c := A3 p.fBody) s7 Bu rfl (Gw (B0 s7 (.here) rfl rfl fun H s41 => gf3 (Gw (B0 s41 (.here) rfl rfl fun H s42 => gf5 (Gw (B0 s42 (.here) rfl rfl fun H s43 => gf6 (B0 s43 (.here) rfl rfl fun H s44 => gf2 (A0 (c := si p.fQos) s44 Bu rfl (K9 (Af ((decide (0 < p.fQos))) (fun h45 => ?_) fun h45 => ?_))))))))))))))))))))))
 refine Ci h45 (gf1 (A0 (c := sb p.fDup) s44 Bu rfl (Mj (gf1 (Fk s44 Bu (V2 (.here)) (A0 (c := si p.fId) s44 Bu rfl (Gw (B0 s44 (.here) rfl rfl fun H s46 => Mj (B0 s46 (.here) rfl rfl fun H s47 => Ae s47 (.here) rfl (Bg (cs' := [si p.fType, sb p.fDup, si p.fQos, sb p.fRetain, si p.fId, ss p.fTopic, A3 p.fBody, sE, i0, bF, i0, bF, sE, .nl, i0, bF, bF, sE, bF, .nl, i0, bF, .nl, .nl, .nl]) s47 A1 (Ac rfl) rfl (A9 rfl) rfl fun H s48 => Ae s48 (.here) rfl ?_))))))))))
 have e : Bc false p = (⟨p.fType, p.fDup, p.fQos, p.fRetain, p.fId, p.fTopic, p.fBody, ⟨#[]⟩, 0, false, 0, false, ⟨#[]⟩, ⟨#[]⟩, 0, false, false, ⟨#[]⟩, false, ⟨#[]⟩, 0, false, [], [], []⟩ : Az) := by
  simp only [F4] at h8 h36 h40 h45
  simp [Bc, Df, De, Fd, h8, h36, h40, h45]
 rw [e] at hk
 exact hk _ _ (fun L' => (F6 (.cons .ro (F6 (.cons .nl (K5 (.cons .nl (Hz (.cons .nl (.cons .nl (.cons .nl .nil))))))))))) s48.tail.tail.tail
 refine Bt h45 (Ae s44 (.here) rfl (Bg (cs' := [si p.fType, bF, si p.fQos, sb p.fRetain, i0, ss p.fTopic, A3 p.fBody, sE, i0, bF, i0, bF, sE, .nl, i0, bF, bF, sE, bF, .nl, i0, bF, .nl, .nl, .nl]) s44 A1 (Ac rfl) rfl (A9 rfl) rfl fun H s49 => Ae s49 (.here) rfl ?_))
 have e : Bc false p = (⟨p.fType, false, p.fQos, p.fRetain, 0, p.fTopic, p.fBody, ⟨#[]⟩, 0, false, 0, false, ⟨#[]⟩, ⟨#[]⟩, 0, false, false, ⟨#[]⟩, false, ⟨#[]⟩, 0, false, [], [], []⟩ : Az) := by
  simp only [F4] at h8 h36 h40 h45
  simp [Bc, Df, De, Fd, h8, h36, h40, h45]
 rw [e] at hk
 exact hk _ _ (fun L' => (F6 (.cons .ro (F6 (.cons .nl (K5 (.cons .nl (Hz (.cons .nl (.cons .nl (.cons .nl .nil))))))))))) s49.tail.tail.tail
 refine Bt h40 (Bp (Hw (Af ((decide (p.fType = 4))) (fun h50 => ?_) fun h50 => ?_)))
 refine Ci h50 (Ci h50 (Mj (A0 (c := si p.fId) s7 Bu rfl (Mj (B0 s7 (.here) rfl rfl fun H s51 => Ae s51 (.here) rfl (Bg (cs' := [si p.fType, bF, i0, bF, si p.fId, sE, .nl, sE, i0, bF, i0, bF, sE, .nl, i0, bF, bF, sE, bF, .nl, i0, bF, .nl, .nl, .nl]) s51 A1 (Ac rfl) rfl (A9 rfl) rfl fun H s52 => Ae s52 (.here) rfl ?_))))))
 have e : Bc false p = (⟨p.fType, false, 0, false, p.fId, ⟨#[]⟩, ⟨#[]⟩, ⟨#[]⟩, 0, false, 0, false, ⟨#[]⟩, ⟨#[]⟩, 0, false, false, ⟨#[]⟩, false, ⟨#[]⟩, 0, false, [], [], []⟩ : Az) := by
  simp only [F4] at h8 h36 h40 h50
  simp [Bc, Df, De, Fd, h8, h36, h40, h50]
 rw [e] at hk
 exact hk _ _ (fun L' => (F6 (.cons .nl (F6 (.cons .nl (K5 (.cons .nl (Hz (.cons .nl (.cons .nl (.cons .nl .nil))))))))))) s52.tail.tail.tail
 refine Bt h50 (Bp (Af ((decide (p.fType = 5))) (fun h53 => ?_) fun h53 => ?_))
 refine Ci h53 (Ci h53 (Mj (A0 (c := si p.fId) s7 Bu rfl (Mj (B0 s7 (.here) rfl rfl fun H s54 => Ae s54 (.here) rfl (Bg (cs' := [si p.fType, bF, i0, bF, si p.fId, sE, .nl, sE, i0, bF, i0, bF, sE, .nl, i0, bF, bF, sE, bF, .nl, i0, bF, .nl, .nl, .nl]) s54 A1 (Ac rfl) rfl (A9 rfl) rfl fun H s55 => Ae s55 (.here) rfl ?_))))))
 have e : Bc false p = (⟨p.fType, false, 0, false, p.fId, ⟨#[]⟩, ⟨#[]⟩, ⟨#[]⟩, 0, false, 0, false, ⟨#[]⟩, ⟨#[]⟩, 0, false, false, ⟨#[]⟩, false, ⟨#[]⟩, 0, false, [], [], []⟩ : Az) := by
  simp only [F4] at h8 h36 h40 h50 h53
  simp [Bc, Df, De, Fd, h8, h36, h40, h50, h53]
 rw [e] at hk
 exact hk _ _ (fun L' => (F6 (.cons .nl (F6 (.cons .nl (K5 (.cons .nl (Hz (.cons .nl (.cons .nl (.cons .nl .nil))))))))))) s55.tail.tail.tail
 refine Bt h53 (Bp (Af ((decide (p.fType = 6))) (fun h56 => ?_) fun h56 => ?_))
 refine Ci h56 (Ci h56 (Mj (A0 (c := si p.fId) s7 Bu rfl (Mj (B0 s7 (.here) rfl rfl fun H s57 => Ae s57 (.here) rfl (Bg (cs' := [si p.fType, bF, i0, bF, si p.fId, sE, .nl, sE, i0, bF, i0, bF, sE, .nl, i0, bF, bF, sE, bF, .nl, i0, bF, .nl, .nl, .nl]) s57 A1 (Ac rfl) rfl (A9 rfl) rfl fun H s58 => Ae s58 (.here) rfl ?_))))))
 have e : Bc false p = (⟨p.fType, false, 0, false, p.fId, ⟨#[]⟩, ⟨#[]⟩, ⟨#[]⟩, 0, false, 0, false, ⟨#[]⟩, ⟨#[]⟩, 0, false, false, ⟨#[]⟩, false, ⟨#[]⟩, 0, false, [], [], []⟩ : Az) := by
  simp only [F4] at h8 h36 h40 h50 h53 h56
  simp [Bc, Df, De, Fd, h8, h36, h40, h50, h53, h56]
 rw [e] at hk
 exact hk _ _ (fun L' => (F6 (.cons .nl (F6 (.cons .nl (K5 (.cons .nl (Hz (.cons .nl (.cons .nl (.cons .nl .nil))))))))))) s58.tail.tail.tail
 refine Bt h56 (Bp (Af ((decide (p.fType = 7))) (fun h59 => ?_) fun h59 => ?_))
 refine Ci h59 (Ci h59 (Mj (A0 (c := si p.fId) s7 Bu rfl (Mj (B0 s7 (.here) rfl rfl fun H s60 => Ae s60 (.here) rfl (Bg (cs' := [si p.fType, bF, i0, bF, si p.fId, sE, .nl, sE, i0, bF, i0, bF, sE, .nl, i0, bF, bF, sE, bF, .nl, i0, bF, .nl, .nl, .nl]) s60 A1 (Ac rfl) rfl (A9 rfl) rfl fun H s61 => Ae s61 (.here) rfl ?_))))))
 have e : Bc false p = (⟨p.fType, false, 0, false, p.fId, ⟨#[]⟩, ⟨#[]⟩, ⟨#[]⟩, 0, false, 0, false, ⟨#[]⟩, ⟨#[]⟩, 0, false, false, ⟨#[]⟩, false, ⟨#[]⟩, 0, false, [], [], []⟩ : Az) := by
  simp only [F4] at h8 h36 h40 h50 h53 h56 h59
  simp [Bc, Df, De, Fd, h8, h36, h40, h50, h53, h56, h59]
 rw [e] at hk
 exact hk _ _ (fun L' => (F6 (.cons .nl (F6 (.cons .nl (K5 (.cons .nl (Hz (.cons .nl (.cons .nl (.cons .nl .nil))))))))))) s61.tail.tail.tail
 refine Bt h59 (Bp (Af ((decide (p.fType = 11))) (fun h62 => ?_) fun h62 => ?_))
 refine Ci h62 (Mj (A0 (c := si p.fId) s7 Bu rfl (Mj (B0 s7 (.here) rfl rfl fun H s63 => Ae s63 (.here) rfl (Bg (cs' := [si p.fType, bF, i0, bF, si p.fId, sE, .nl, sE, i0, bF, i0, bF, sE, .nl, i0, bF, bF, sE, bF, .nl, i0, bF, .nl, .nl, .nl]) s63 A1 (Ac rfl) rfl (A9 rfl) rfl fun H s64 => Ae s64 (.here) rfl ?_)))))
 have e : Bc false p = (⟨p.fType, false, 0, false, p.fId, ⟨#[]⟩, ⟨#[]⟩, ⟨#[]⟩, 0, false, 0, false, ⟨#[]⟩, ⟨#[]⟩, 0, false, false, ⟨#[]⟩, false, ⟨#[]⟩, 0, false, [], [], []⟩ : Az) := by
  simp only [F4] at h8 h36 h40 h50 h53 h56 h59 h62
  simp [Bc, Df, De, Fd, h8, h36, h40, h50, h53, h56, h59, h62]
 rw [e] at hk
 exact hk _ _ (fun L' => (F6 (.cons .nl (F6 (.cons .nl (K5 (.cons .nl (Hz (.cons .nl (.cons .nl (.cons .nl .nil))))))))))) s64.tail.tail.tail
 refine Bt h62 (Bp (Af ((decide (p.fType = 8))) (fun h65 => ?_) fun h65 => ?_))
 refine Ci h65 (Mj (A0 (c := si p.fId) s7 Bu rfl (AfS (Mj (Fk s7 Bu (V2 (.here)) (A0 (c := Ai Dh p.fWants) s7 Bu rfl (Gw (B0 s7 (.here) rfl rfl fun H s66 => AfS (B0 s66 (.here) rfl rfl fun H s67 => Ae s67 (.here) rfl (Bg (cs' := [si p.fType, bF, i0, bF, si p.fId, sE, .nl, sE, i0, bF, i0, bF, sE, .nl, i0, bF, bF, sE, bF, .nl, i0, bF, Ai Dh p.fWants, .nl, .nl]) s67 A1 (Ac rfl) rfl (A9 rfl) rfl fun H s68 => Ae s68 (.here) rfl ?_))))))))))
 have e : Bc false p = (⟨p.fType, false, 0, false, p.fId, ⟨#[]⟩, ⟨#[]⟩, ⟨#[]⟩, 0, false, 0, false, ⟨#[]⟩, ⟨#[]⟩, 0, false, false, ⟨#[]⟩, false, ⟨#[]⟩, 0, false, p.fWants, [], []⟩ : Az) := by
  simp only [F4] at h8 h36 h40 h50 h53 h56 h59 h62 h65
  simp [Bc, Df, De, Fd, h8, h36, h40, h50, h53, h56, h59, h62, h65]
 rw [e] at hk
 exact hk _ _ (fun L' => (F6 (.cons .nl (F6 (.cons .nl (K5 (.cons .nl (Hz (.cons .ro (.cons .nl (.cons .nl .nil))))))))))) s68.tail.tail.tail
 refine Bt h65 (Bp (Af ((decide (p.fType = 9))) (fun h69 => ?_) fun h69 => ?_))
 refine Ci h69 (Mj (A0 (c := si p.fId) s7 Bu rfl (AfU (Mj (Fk s7 Bu (V2 (.here)) (A0 (c := Fz p.fCodes) s7 Bu rfl (Gw (B0 s7 (.here) rfl rfl fun H s70 => AfU (B0 s70 (.here) rfl rfl fun H s71 => Ae s71 (.here) rfl (Bg (cs' := [si p.fType, bF, i0, bF, si p.fId, sE, .nl, sE, i0, bF, i0, bF, sE, .nl, i0, bF, bF, sE, bF, .nl, i0, bF, .nl, .nl, Fz p.fCodes]) s71 A1 (Ac rfl) rfl (A9 rfl) rfl fun H s72 => Ae s72 (.here) rfl ?_))))))))))
 have e : Bc false p = (⟨p.fType, false, 0, false, p.fId, ⟨#[]⟩, ⟨#[]⟩, ⟨#[]⟩, 0, false, 0, false, ⟨#[]⟩, ⟨#[]⟩, 0, false, false, ⟨#[]⟩, false, ⟨#[]⟩, 0, false, [], [], p.fCodes⟩ : Az) := by
  simp only [F4] at h8 h36 h40 h50 h53 h56 h59 h62 h65 h69
  simp [Bc, Df, De, Fd, h8, h36, h40, h50, h53, h56, h59, h62, h65, h69]
 rw [e] at hk
 exact hk _ _ (fun L' => (F6 (.cons .nl (F6 (.cons .nl (K5 (.cons .nl (Hz (.cons .nl (.cons .nl (.cons .ro .nil))))))))))) s72.tail.tail.tail
 refine Bt h69 (Bp (Af ((decide (p.fType = 10))) (fun h73 => ?_) fun h73 => ?_))
 refine Ci h73 (Mj (A0 (c := si p.fId) s7 Bu rfl (AfT (Mj (Fk s7 Bu (V2 (.here)) (A0 (c := Is p.fNames) s7 Bu rfl (Gw (B0 s7 (.here) rfl rfl fun H s74 => AfT (B0 s74 (.here) rfl rfl fun H s75 => Ae s75 (.here) rfl (Bg (cs' := [si p.fType, bF, i0, bF, si p.fId, sE, .nl, sE, i0, bF, i0, bF, sE, .nl, i0, bF, bF, sE, bF, .nl, i0, bF, .nl, Is p.fNames, .nl]) s75 A1 (Ac rfl) rfl (A9 rfl) rfl fun H s76 => Ae s76 (.here) rfl ?_))))))))))
 have e : Bc false p = (⟨p.fType, false, 0, false, p.fId, ⟨#[]⟩, ⟨#[]⟩, ⟨#[]⟩, 0, false, 0, false, ⟨#[]⟩, ⟨#[]⟩, 0, false, false, ⟨#[]⟩, false, ⟨#[]⟩, 0, false, [], p.fNames, []⟩ : Az) := by
  simp only [F4] at h8 h36 h40 h50 h53 h56 h59 h62 h65 h69 h73
  simp [Bc, Df, De, Fd, h8, h36, h40, h50, h53, h56, h59, h62, h65, h69, h73]
 rw [e] at hk
 exact hk _ _ (fun L' => (F6 (.cons .nl (F6 (.cons .nl (K5 (.cons .nl (Hz (.cons .nl (.cons .ro (.cons .nl .nil))))))))))) s76.tail.tail.tail
 refine Bt h73 (Ae s7 (.here) rfl (Bg (cs' := [si p.fType, bF, i0, bF, i0, sE, .nl, sE, i0, bF, i0, bF, sE, .nl, i0, bF, bF, sE, bF, .nl, i0, bF, .nl, .nl, .nl]) s7 A1 (Ac rfl) rfl (A9 rfl) rfl fun H s77 => Ae s77 (.here) rfl ?_))
 have e : Bc false p = (⟨p.fType, false, 0, false, 0, ⟨#[]⟩, ⟨#[]⟩, ⟨#[]⟩, 0, false, 0, false, ⟨#[]⟩, ⟨#[]⟩, 0, false, false, ⟨#[]⟩, false, ⟨#[]⟩, 0, false, [], [], []⟩ : Az) := by
  simp only [F4] at h8 h36 h40 h50 h53 h56 h59 h62 h65 h69 h73
  simp [Bc, Df, De, Fd, h8, h36, h40, h50, h53, h56, h59, h62, h65, h69, h73]
 rw [e] at hk
 exact hk _ _ (fun L' => (F6 (.cons .nl (F6 (.cons .nl (K5 (.cons .nl (Hz (.cons .nl (.cons .nl (.cons .nl .nil))))))))))) s77.tail.tail.tail
theorem Th (n : Nat) (hn : 1048576 < n) (p : Az) {β : Type} {G : Option β → Prop} {KH : KO β} {H : Ab} {L : List Ck} (s0 : Sep H (L)) (hk : ∀ raw H', (∀ L', VwL L' 7 raw (Bd (Bc true p))) → Sep H' L → Gd G (KH (.agg raw) H')) : Gd G (Di E0 (n + 1) β 121 [.agg (Bd p)] H fun x H => KH x H) := by
 rw [Afs, f121]
 try simp only [C8, C2, B3, Bm, Bs, Bh, A2, B6, Pr.gT, Pr.gF, Pr.hT, Pr.hF, Pr.kT, Pr.kF, Ce, Bx]
 refine Ms s0 (F8 (Dv _)) fun i1 H s2 => Dc s2 fun i3 H s4 => gf0 (A0 (c := si p.fType) s4 A1 rfl (Bk (cs := [si p.fType, bF, i0, bF, i0, sE, .nl, sE, i0, bF, i0, bF, sE, .nl, i0, bF, bF, sE, bF, .nl, i0, bF, .nl, .nl, .nl]) rfl (Dc s4 fun i5 H s6 => Bg (cs' := [si p.fType, bF, i0, bF, i0, sE, .nl, sE, i0, bF, i0, bF, sE, .nl, i0, bF, bF, sE, bF, .nl, i0, bF, .nl, .nl, .nl]) s6 (.here) (Ac rfl) rfl (A9 rfl) rfl fun H s7 => gf0 (A0 (c := si p.fType) s7 Bu rfl (Bp (Af ((decide (p.fType = 1))) (fun h8 => ?_) fun h8 => ?_))))))
 refine Ci h8 (gf8 (A0 (c := si p.fLevel) s7 Bu rfl (gf8 (B0 s7 (.here) rfl rfl fun H s9 => gf7 (A0 (c := ss p.fClient) s9 Bu rfl (gf7 (B0 s9 (.here) rfl rfl fun H s10 => gf9 (A0 (c := sb p.fClean) s10 Bu rfl (gf9 (B0 s10 (.here) rfl rfl fun H s11 => AfN (A0 (c := si p.fKeep) s11 Bu rfl (AfN (B0 s11 (.here) rfl rfl fun H s12 => Aej (A0 (c := sb p.fHasWill) s12 Bu rfl (Hw (Af (p.fHasWill) (fun h13 => ?_) fun h13 => ?_))))))))))))))))
 refine Ci h13 (Aej (B0 s12 (.here) rfl rfl fun H s14 => AfO (A0 (c := ss p.fWTopic) s14 Bu rfl (AfO (B0 s14 (.here) rfl rfl fun H s15 => AfP (A0 (c := A3 p.fWBody) s15 Bu rfl (AfP (B0 s15 (.here) rfl rfl fun H s16 => AfQ (A0 (c := si p.fWQos) s16 Bu rfl (AfQ (B0 s16 (.here) rfl rfl fun H s17 => AfR (A0 (c := sb p.fWRetain) s17 Bu rfl (AfR (B0 s17 (.here) rfl rfl fun H s18 => Wt (A0 (c := sb p.fHasUser) s18 Bu rfl (Af (p.fHasUser) (fun h19 => ?_) fun h19 => ?_))))))))))))))))
 refine Ci h19 (Wt (B0 s18 (.here) rfl rfl fun H s20 => Wu (A0 (c := ss p.fUser) s20 Bu rfl (Wu (B0 s20 (.here) rfl rfl fun H s21 => Qx (A0 (c := sb p.fHasPass) s21 Bu rfl (Af (p.fHasPass) (fun h22 => ?_) fun h22 => ?_)))))))
 refine Ci h22 (Qx (B0 s21 (.here) rfl rfl fun H s23 => Wv (A0 (c := A3 p.fPass) s23 Bu rfl (Wv (B0 s23 (.here) rfl rfl fun H s24 => Ae s24 (.here) rfl (Bg (cs' := [si p.fType, bF, i0, bF, i0, sE, .nl, ss p.fClient, si p.fLevel, sb p.fClean, si p.fKeep, bT, ss p.fWTopic, A3 p.fWBody, si p.fWQos, sb p.fWRetain, bT, ss p.fUser, bT, A3 p.fPass, i0, bF, .nl, .nl, .nl]) s24 A1 (Ac rfl) rfl (A9 rfl) rfl fun H s25 => Ae s25 (.here) rfl ?_))))))
 have e : Bc true p = (⟨p.fType, false, 0, false, 0, ⟨#[]⟩, ⟨#[]⟩, p.fClient, p.fLevel, p.fClean, p.fKeep, true, p.fWTopic, p.fWBody, p.fWQos, p.fWRetain, true, p.fUser, true, p.fPass, 0, false, [], [], []⟩ : Az) := by
  simp only [F4] at h8 h13 h19 h22
  simp [Bc, Df, De, Fd, h8, h13, h19, h22]
 rw [e] at hk
 exact hk _ _ (fun L' => (F6 (.cons .nl (F6 (.cons .ro (K5 (.cons .ro (Hz (.cons .nl (.cons .nl (.cons .nl .nil))))))))))) s25.tail.tail.tail
 refine Bt h22 (Ae s21 (.here) rfl (Bg (cs' := [si p.fType, bF, i0, bF, i0, sE, .nl, ss p.fClient, si p.fLevel, sb p.fClean, si p.fKeep, bT, ss p.fWTopic, A3 p.fWBody, si p.fWQos, sb p.fWRetain, bT, ss p.fUser, bF, .nl, i0, bF, .nl, .nl, .nl]) s21 A1 (Ac rfl) rfl (A9 rfl) rfl fun H s26 => Ae s26 (.here) rfl ?_))
 have e : Bc true p = (⟨p.fType, false, 0, false, 0, ⟨#[]⟩, ⟨#[]⟩, p.fClient, p.fLevel, p.fClean, p.fKeep, true, p.fWTopic, p.fWBody, p.fWQos, p.fWRetain, true, p.fUser, false, ⟨#[]⟩, 0, false, [], [], []⟩ : Az) := by
  simp only [F4] at h8 h13 h19 h22
  simp [Bc, Df, De, Fd, h8, h13, h19, h22]
 rw [e] at hk
 exact hk _ _ (fun L' => (F6 (.cons .nl (F6 (.cons .ro (K5 (.cons .nl (Hz (.cons .nl (.cons .nl (.cons .nl .nil))))))))))) s26.tail.tail.tail
 refine Bt h19 (Ae s18 (.here) rfl (Bg (cs' := [si p.fType, bF, i0, bF, i0, sE, .nl, ss p.fClient, si p.fLevel, sb p.fClean, si p.fKeep, bT, ss p.fWTopic, A3 p.fWBody, si p.fWQos, sb p.fWRetain, bF, sE, bF, .nl, i0, bF, .nl, .nl, .nl]) s18 A1 (Ac rfl) rfl (A9 rfl) rfl fun H s27 => Ae s27 (.here) rfl ?_))
 have e : Bc true p = (⟨p.fType, false, 0, false, 0, ⟨#[]⟩, ⟨#[]⟩, p.fClient, p.fLevel, p.fClean, p.fKeep, true, p.fWTopic, p.fWBody, p.fWQos, p.fWRetain, false, ⟨#[]⟩, false, ⟨#[]⟩, 0, false, [], [], []⟩ : Az) := by
  simp only [F4] at h8 h13 h19
  simp [Bc, Df, De, Fd, h8, h13, h19]
 rw [e] at hk
 exact hk _ _ (fun L' => (F6 (.cons .nl (F6 (.cons .ro (K5 (.cons .nl (Hz (.cons .nl (.cons .nl (.cons .nl .nil))))))))))) s27.tail.tail.tail
 refine Bt h13 (Wt (A0 (c := sb p.fHasUser) s12 Bu rfl (Af (p.fHasUser) (fun h28 => ?_) fun h28 => ?_)))
 refine Ci h28 (Wt (B0 s12 (.here) rfl rfl fun H s29 => Wu (A0 (c := ss p.fUser) s29 Bu rfl (Wu (B0 s29 (.here) rfl rfl fun H s30 => Qx (A0 (c := sb p.fHasPass) s30 Bu rfl (Af (p.fHasPass) (fun h31 => ?_) fun h31 => ?_)))))))
 refine Ci h31 (Qx (B0 s30 (.here) rfl rfl fun H s32 => Wv (A0 (c := A3 p.fPass) s32 Bu rfl (Wv (B0 s32 (.here) rfl rfl fun H s33 => Ae s33 (.here) rfl (Bg (cs' := [si p.fType, bF, i0, bF, i0, sE, .nl, ss p.fClient, si p.fLevel, sb p.fClean, si p.fKeep, bF, sE, .nl, i0, bF, bT, ss p.fUser, bT, A3 p.fPass, i0, bF, .nl, .nl, .nl]) s33 A1 (Ac rfl) rfl (A9 rfl) rfl fun H s34 => Ae s34 (.here) rfl ?_))))))
 have e : Bc true p = (⟨p.fType, false, 0, false, 0, ⟨#[]⟩, ⟨#[]⟩, p.fClient, p.fLevel, p.fClean, p.fKeep, false, ⟨#[]⟩, ⟨#[]⟩, 0, false, true, p.fUser, true, p.fPass, 0, false, [], [], []⟩ : Az) := by
  simp only [F4] at h8 h13 h28 h31
  simp [Bc, Df, De, Fd, h8, h13, h28, h31]
 rw [e] at hk
 exact hk _ _ (fun L' => (F6 (.cons .nl (F6 (.cons .nl (K5 (.cons .ro (Hz (.cons .nl (.cons .nl (.cons .nl .nil))))))))))) s34.tail.tail.tail
 refine Bt h31 (Ae s30 (.here) rfl (Bg (cs' := [si p.fType, bF, i0, bF, i0, sE, .nl, ss p.fClient, si p.fLevel, sb p.fClean, si p.fKeep, bF, sE, .nl, i0, bF, bT, ss p.fUser, bF, .nl, i0, bF, .nl, .nl, .nl]) s30 A1 (Ac rfl) rfl (A9 rfl) rfl fun H s35 => Ae s35 (.here) rfl ?_))
 have e : Bc true p = (⟨p.fType, false, 0, false, 0, ⟨#[]⟩, ⟨#[]⟩, p.fClient, p.fLevel, p.fClean, p.fKeep, false, ⟨#[]⟩, ⟨#[]⟩, 0, false, true, p.fUser, false, ⟨#[]⟩, 0, false, [], [], []⟩ : Az) := by
  simp only [F4] at h8 h13 h28 h31
  simp [Bc, Df, De, Fd, h8, h13, h28, h31]
 rw [e] at hk
 exact hk _ _ (fun L' => (F6 (.cons .nl (F6 (.cons .nl (K5 (.cons .nl (Hz (.cons .nl (.cons .nl (.cons .nl .nil))))))))))) s35.tail.tail.tail
 refine Bt h28 (Ae s12 (.here) rfl (Bg (cs' := [si p.fType, bF, i0, bF, i0, sE, .nl, ss p.fClient, si p.fLevel, sb p.fClean, si p.fKeep, bF, sE, .nl, i0, bF, bF, sE, bF, .nl, i0, bF, .nl, .nl, .nl]) s12 A1 (Ac rfl) rfl (A9 rfl) rfl fun H s36 => Ae s36 (.here) rfl ?_))
 have e : Bc true p = (⟨p.fType, false, 0, false, 0, ⟨#[]⟩, ⟨#[]⟩, p.fClient, p.fLevel, p.fClean, p.fKeep, false, ⟨#[]⟩, ⟨#[]⟩, 0, false, false, ⟨#[]⟩, false, ⟨#[]⟩, 0, false, [], [], []⟩ : Az) := by
  simp only [F4] at h8 h13 h28
  simp [Bc, Df, De, Fd, h8, h13, h28]
 rw [e] at hk
 exact hk _ _ (fun L' => (F6 (.cons .nl (F6 (.cons .nl (K5 (.cons .nl (Hz (.cons .nl (.cons .nl (.cons .nl .nil))))))))))) s36.tail.tail.tail
 refine Bt h8 (Bp (Af ((decide (p.fType = 2))) (fun h37 => ?_) fun h37 => ?_))
 refine Ci h37 (Aek (A0 (c := si p.fCode) s7 Bu rfl (Aek (B0 s7 (.here) rfl rfl fun H s38 => Ael (A0 (c := sb p.fPresent) s38 Bu rfl (Af (p.fPresent) (fun h39 => ?_) fun h39 => ?_))))))
 refine A6 h39 (Aek (A6 h39 (A0 (c := si p.fCode) s38 Bu rfl (A6 h39 (Bp (G8 h39 (Ael (B0 s38 (.here) rfl rfl fun H s40 => Ae s40 (.here) rfl (Bg (cs' := [si p.fType, bF, i0, bF, i0, sE, .nl, sE, i0, bF, i0, bF, sE, .nl, i0, bF, bF, sE, bF, .nl, si p.fCode, sb (decide (p.fCode = 0)), .nl, .nl, .nl]) s40 A1 (Ac rfl) rfl (A9 rfl) rfl fun H s41 => Ae s41 (.here) rfl ?_)))))))))
 have e : Bc true p = (⟨p.fType, false, 0, false, 0, ⟨#[]⟩, ⟨#[]⟩, ⟨#[]⟩, 0, false, 0, false, ⟨#[]⟩, ⟨#[]⟩, 0, false, false, ⟨#[]⟩, false, ⟨#[]⟩, p.fCode, (decide (p.fCode = 0)), [], [], []⟩ : Az) := by
  simp only [F4] at h8 h37 h39
  simp [Bc, Df, De, Fd, h8, h37, h39]
 rw [e] at hk
 exact hk _ _ (fun L' => (F6 (.cons .nl (F6 (.cons .nl (K5 (.cons .nl (Hz (.cons .nl (.cons .nl (.cons .nl .nil))))))))))) s41.tail.tail.tail
 refine Dx h39 (Dx h39 (Dx h39 (F3 h39 (Ael (B0 s38 (.here) rfl rfl fun H s42 => Ae s42 (.here) rfl (Bg (cs' := [si p.fType, bF, i0, bF, i0, sE, .nl, sE, i0, bF, i0, bF, sE, .nl, i0, bF, bF, sE, bF, .nl, si p.fCode, bF, .nl, .nl, .nl]) s42 A1 (Ac rfl) rfl (A9 rfl) rfl fun H s43 => Ae s43 (.here) rfl ?_))))))
 have e : Bc true p = (⟨p.fType, false, 0, false, 0, ⟨#[]⟩, ⟨#[]⟩, ⟨#[]⟩, 0, false, 0, false, ⟨#[]⟩, ⟨#[]⟩, 0, false, false, ⟨#[]⟩, false, ⟨#[]⟩, p.fCode, false, [], [], []⟩ : Az) := by
  simp only [F4] at h8 h37 h39
  simp [Bc, Df, De, Fd, h8, h37, h39]
 rw [e] at hk
 exact hk _ _ (fun L' => (F6 (.cons .nl (F6 (.cons .nl (K5 (.cons .nl (Hz (.cons .nl (.cons .nl (.cons .nl .nil))))))))))) s43.tail.tail.tail
 refine Bt h37 (Bp (Af ((decide (p.fType = 3))) (fun h44 => ?_) fun h44 => ?_))
 refine Ci h44 (gf2 (A0 (c := si p.fQos) s7 Bu rfl (gf2 (B0 s7 (.here) rfl rfl fun H s45 => gf3 (A0 (c := sb p.fRetain) s45 Bu rfl (gf3 (B0 s45 (.here) rfl rfl fun H s46 => gf5 (A0 (c := ss p.fTopic) s46 Bu rfl (gf5 (B0 s46 (.here) rfl rfl fun H s47 => gf6 (A0 (c := A3 p.fBody) s47 Bu rfl (gf6 (B0 s47 (.here) rfl rfl fun H s48 => gf2 (A0 (c := si p.fQos) s48 Bu rfl (K9 (Af ((decide (0 < p.fQos))) (fun h49 => ?_) fun h49 => ?_))))))))))))))))
 refine Ci h49 (gf1 (A0 (c := sb p.fDup) s48 Bu rfl (gf1 (B0 s48 (.here) rfl rfl fun H s50 => Mj (A0 (c := si p.fId) s50 Bu rfl (Mj (B0 s50 (.here) rfl rfl fun H s51 => Ae s51 (.here) rfl (Bg (cs' := [si p.fType, sb p.fDup, si p.fQos, sb p.fRetain, si p.fId, ss p.fTopic, A3 p.fBody, sE, i0, bF, i0, bF, sE, .nl, i0, bF, bF, sE, bF, .nl, i0, bF, .nl, .nl, .nl]) s51 A1 (Ac rfl) rfl (A9 rfl) rfl fun H s52 => Ae s52 (.here) rfl ?_))))))))
 have e : Bc true p = (⟨p.fType, p.fDup, p.fQos, p.fRetain, p.fId, p.fTopic, p.fBody, ⟨#[]⟩, 0, false, 0, false, ⟨#[]⟩, ⟨#[]⟩, 0, false, false, ⟨#[]⟩, false, ⟨#[]⟩, 0, false, [], [], []⟩ : Az) := by
  simp only [F4] at h8 h37 h44 h49
  simp [Bc, Df, De, Fd, h8, h37, h44, h49]
 rw [e] at hk
 exact hk _ _ (fun L' => (F6 (.cons .ro (F6 (.cons .nl (K5 (.cons .nl (Hz (.cons .nl (.cons .nl (.cons .nl .nil))))))))))) s52.tail.tail.tail
 refine Bt h49 (Ae s48 (.here) rfl (Bg (cs' := [si p.fType, bF, si p.fQos, sb p.fRetain, i0, ss p.fTopic, A3 p.fBody, sE, i0, bF, i0, bF, sE, .nl, i0, bF, bF, sE, bF, .nl, i0, bF, .nl, .nl, .nl]) s48 A1 (Ac rfl) rfl (A9 rfl) rfl fun H s53 => Ae s53 (.here) rfl ?_))
 have e : Bc true p = (⟨p.fType, false, p.fQos, p.fRetain, 0, p.fTopic, p.fBody, ⟨#[]⟩, 0, false, 0, false, ⟨#[]⟩, ⟨#[]⟩, 0, false, false, ⟨#[]⟩, false, ⟨#[]⟩, 0, false, [], [], []⟩ : Az) := by
  simp only [F4] at h8 h37 h44 h49
  simp [Bc, Df, De, Fd, h8, h37, h44, h49]
 rw [e] at hk
 exact hk _ _ (fun L' => (F6 (.cons .ro (F6 (.cons .nl (K5 (.cons .nl (Hz (.cons .nl (.cons .nl (.cons .nl .nil))))))))))) s53.tail.tail.tail
 refine Bt h44 (Bp (Hw (Af ((decide (p.fType = 4))) (fun h54 => ?_) fun h54 => ?_)))
 refine Ci h54 (Ci h54 (Mj (A0 (c := si p.fId) s7 Bu rfl (Mj (B0 s7 (.here) rfl rfl fun H s55 => Ae s55 (.here) rfl (Bg (cs' := [si p.fType, bF, i0, bF, si p.fId, sE, .nl, sE, i0, bF, i0, bF, sE, .nl, i0, bF, bF, sE, bF, .nl, i0, bF, .nl, .nl, .nl]) s55 A1 (Ac rfl) rfl (A9 rfl) rfl fun H s56 => Ae s56 (.here) rfl ?_))))))
 have e : Bc true p = (⟨p.fType, false, 0, false, p.fId, ⟨#[]⟩, ⟨#[]⟩, ⟨#[]⟩, 0, false, 0, false, ⟨#[]⟩, ⟨#[]⟩, 0, false, false, ⟨#[]⟩, false, ⟨#[]⟩, 0, false, [], [], []⟩ : Az) := by
  simp only [F4] at h8 h37 h44 h54
  simp [Bc, Df, De, Fd, h8, h37, h44, h54]
 rw [e] at hk
 exact hk _ _ (fun L' => (F6 (.cons .nl (F6 (.cons .nl (K5 (.cons .nl (Hz (.cons .nl (.cons .nl (.cons .nl .nil))))))))))) s56.tail.tail.tail
 refine Bt h54 (Bp (Af ((decide (p.fType = 5))) (fun h57 => ?_) fun h57 => ?_))
 refine Ci h57 (Ci h57 (Mj (A0 (c := si p.fId) s7 Bu rfl (Mj (B0 s7 (.here) rfl rfl fun H s58 => Ae s58 (.here) rfl (Bg (cs' := [si p.fType, bF, i0, bF, si p.fId, sE, .nl, sE, i0, bF, i0, bF, sE, .nl, i0, bF, bF, sE, bF, .nl, i0, bF, .nl, .nl, .nl]) s58 A1 (Ac rfl) rfl (A9 rfl) rfl fun H s59 => Ae s59 (.here) rfl ?_))))))
 have e : Bc true p = (⟨p.fType, false, 0, false, p.fId, ⟨#[]⟩, ⟨#[]⟩, ⟨#[]⟩, 0, false, 0, false, ⟨#[]⟩, ⟨#[]⟩, 0, false, false, ⟨#[]⟩, false, ⟨#[]⟩, 0, false, [], [], []⟩ : Az) := by
  simp only [F4] at h8 h37 h44 h54 h57
  simp [Bc, Df, De, Fd, h8, h37, h44, h54, h57]
 rw [e] at hk
 exact hk _ _ (fun L' => (F6 (.cons .nl (F6 (.cons .nl (K5 (.cons .nl (Hz (.cons .nl (.cons .nl (.cons .nl .nil))))))))))) s59.tail.tail.tail
 refine Bt h57 (Bp (Af ((decide (p.fType = 6))) (fun h60 => ?_) fun h60 => ?_))
 refine Ci h60 (Ci h60 (Mj (A0 (c := si p.fId) s7 Bu rfl (Mj (B0 s7 (.here) rfl rfl fun H s61 => Ae s61 (.here) rfl (Bg (cs' := [si p.fType, bF, i0, bF, si p.fId, sE, .nl, sE, i0, bF, i0, bF, sE, .nl, i0, bF, bF, sE, bF, .nl, i0, bF, .nl, .nl, .nl]) s61 A1 (Ac rfl) rfl (A9 rfl) rfl fun H s62 => Ae s62 (.here) rfl ?_))))))
 have e : Bc true p = (⟨p.fType, false, 0, false, p.fId, ⟨#[]⟩, ⟨#[]⟩, ⟨#[]⟩, 0, false, 0, false, ⟨#[]⟩, ⟨#[]⟩, 0, false, false, ⟨#[]⟩, false, ⟨#[]⟩, 0, false, [], [], []⟩ : Az) := by
  simp only [F4] at h8 h37 h44 h54 h57 h60
  simp [Bc, Df, De, Fd, h8, h37, h44, h54, h57, h60]
 rw [e] at hk
 exact hk _ _ (fun L' => (F6 (.cons .nl (F6 (.cons .nl (K5 (.cons .nl (Hz (.cons .nl (.cons .nl (.cons .nl .nil))))))))))) s62.tail.tail.tail
 refine Bt h60 (Bp (Af ((decide (p.fType = 7))) (fun h63 => ?_) fun h63 => ?_))
 refine Ci h63 (Ci h63 (Mj (A0 (c := si p.fId) s7 Bu rfl (Mj (B0 s7 (.here) rfl rfl fun H s64 => Ae s64 (.here) rfl (Bg (cs' := [si p.fType, bF, i0, bF, si p.fId, sE, .nl, sE, i0, bF, i0, bF, sE, .nl, i0, bF, bF, sE, bF, .nl, i0, bF, .nl, .nl, .nl]) s64 A1 (Ac rfl) rfl (A9 rfl) rfl fun H s65 => Ae s65 (.here) rfl ?_))))))
 have e : Bc true p = (⟨p.fType, false, 0, false, p.fId, ⟨#[]⟩, ⟨#[]⟩, ⟨#[]⟩, 0, false, 0, false, ⟨#[]⟩, ⟨#[]⟩, 0, false, false, ⟨#[]⟩, false, ⟨#[]⟩, 0, false, [], [], []⟩ : Az) := by
  simp only [F4] at h8 h37 h44 h54 h57 h60 h63
  simp [Bc, Df, De, Fd, h8, h37, h44, h54, h57, h60, h63]
 rw [e] at hk
 exact hk _ _ (fun L' => (F6 (.cons .nl (F6 (.cons .nl (K5 (.cons .nl (Hz (.cons .nl (.cons .nl (.cons .nl .nil))))))))))) s65.tail.tail.tail
 refine Bt h63 (Bp (Af ((decide (p.fType = 11))) (fun h66 => ?_) fun h66 => ?_))
 refine Ci h66 (Mj (A0 (c := si p.fId) s7 Bu rfl (Mj (B0 s7 (.here) rfl rfl fun H s67 => Ae s67 (.here) rfl (Bg (cs' := [si p.fType, bF, i0, bF, si p.fId, sE, .nl, sE, i0, bF, i0, bF, sE, .nl, i0, bF, bF, sE, bF, .nl, i0, bF, .nl, .nl, .nl]) s67 A1 (Ac rfl) rfl (A9 rfl) rfl fun H s68 => Ae s68 (.here) rfl ?_)))))
 have e : Bc true p = (⟨p.fType, false, 0, false, p.fId, ⟨#[]⟩, ⟨#[]⟩, ⟨#[]⟩, 0, false, 0, false, ⟨#[]⟩, ⟨#[]⟩, 0, false, false, ⟨#[]⟩, false, ⟨#[]⟩, 0, false, [], [], []⟩ : Az) := by
  simp only [F4] at h8 h37 h44 h54 h57 h60 h63 h66
  simp [Bc, Df, De, Fd, h8, h37, h44, h54, h57, h60, h63, h66]
 rw [e] at hk
 exact hk _ _ (fun L' => (F6 (.cons .nl (F6 (.cons .nl (K5 (.cons .nl (Hz (.cons .nl (.cons .nl (.cons .nl .nil))))))))))) s68.tail.tail.tail
 refine Bt h66 (Bp (Af ((decide (p.fType = 8))) (fun h69 => ?_) fun h69 => ?_))
 refine Ci h69 (Mj (A0 (c := si p.fId) s7 Bu rfl (Mj (B0 s7 (.here) rfl rfl fun H s70 => AfS (A0 (c := Ai Dh p.fWants) s70 Bu rfl (AfS (B0 s70 (.here) rfl rfl fun H s71 => Ae s71 (.here) rfl (Bg (cs' := [si p.fType, bF, i0, bF, si p.fId, sE, .nl, sE, i0, bF, i0, bF, sE, .nl, i0, bF, bF, sE, bF, .nl, i0, bF, Ai Dh p.fWants, .nl, .nl]) s71 A1 (Ac rfl) rfl (A9 rfl) rfl fun H s72 => Ae s72 (.here) rfl ?_))))))))
 have e : Bc true p = (⟨p.fType, false, 0, false, p.fId, ⟨#[]⟩, ⟨#[]⟩, ⟨#[]⟩, 0, false, 0, false, ⟨#[]⟩, ⟨#[]⟩, 0, false, false, ⟨#[]⟩, false, ⟨#[]⟩, 0, false, p.fWants, [], []⟩ : Az) := by
  simp only [F4] at h8 h37 h44 h54 h57 h60 h63 h66 h69
  simp [Bc, Df, De, Fd, h8, h37, h44, h54, h57, h60, h63, h66, h69]
 rw [e] at hk
 exact hk _ _ (fun L' => (F6 (.cons .nl (F6 (.cons .nl (K5 (.cons .nl (Hz (.cons .ro (.cons .nl (.cons .nl .nil))))))))))) s72.tail.tail.tail
 refine Bt h69 (Bp (Af ((decide (p.fType = 9))) (fun h73 => ?_) fun h73 => ?_))
 refine Ci h73 (Mj (A0 (c := si p.fId) s7 Bu rfl (Mj (B0 s7 (.here) rfl rfl fun H s74 => AfU (A0 (c := Fz p.fCodes) s74 Bu rfl (AfU (B0 s74 (.here) rfl rfl fun H s75 => Ae s75 (.here) rfl (Bg (cs' := [si p.fType, bF, i0, bF, si p.fId, sE, .nl, sE, i0, bF, i0, bF, sE, .nl, i0, bF, bF, sE, bF, .nl, i0, bF, .nl, .nl, Fz p.fCodes]) s75 A1 (Ac rfl) rfl (A9 rfl) rfl fun H s76 => Ae s76 (.here) rfl ?_))))))))
 have e : Bc true p = (⟨p.fType, false, 0, false, p.fId, ⟨#[]⟩, ⟨#[]⟩, ⟨#[]⟩, 0, false, 0, false, ⟨#[]⟩, ⟨#[]⟩, 0, false, false, ⟨#[]⟩, false, ⟨#[]⟩, 0, false, [], [], p.fCodes⟩ : Az) := by
  simp only [F4] at h8 h37 h44 h54 h57 h60 h63 h66 h69 h73
  simp [Bc, Df, De, Fd, h8, h37, h44, h54, h57, h60, h63, h66, h69, h73]
 rw [e] at hk
 exact hk _ _ (fun L' => (F6 (.cons .nl (F6 (.cons .nl (K5 (.cons .nl (Hz (.cons .nl (.cons .nl (.cons .ro .nil))))))))))) s76.tail.tail.tail
 refine Bt h73 (Bp (Af ((decide (p.fType = 10))) (fun h77 => ?_) fun h77 => ?_))
 refine Ci h77 (Mj (A0 (c := si p.fId) s7 Bu rfl (Mj (B0 s7 (.here) rfl rfl fun H s78 => AfT (A0 (c := Is p.fNames) s78 Bu rfl (AfT (B0 s78 (.here) rfl rfl fun H s79 => Ae s79 (.here) rfl (Bg (cs' := [si p.fType, bF, i0, bF, si p.fId, sE, .nl, sE, i0, bF, i0, bF, sE, .nl, i0, bF, bF, sE, bF, .nl, i0, bF, .nl, Is p.fNames, .nl]) s79 A1 (Ac rfl) rfl (A9 rfl) rfl fun H s80 => Ae s80 (.here) rfl ?_))))))))
 have e : Bc true p = (⟨p.fType, false, 0, false, p.fId, ⟨#[]⟩, ⟨#[]⟩, ⟨#[]⟩, 0, false, 0, false, ⟨#[]⟩, ⟨#[]⟩, 0, false, false, ⟨#[]⟩, false, ⟨#[]⟩, 0, false, [], p.fNames, []⟩ : Az) := by
  simp only [F4] at h8 h37 h44 h54 h57 h60 h63 h66 h69 h73 h77
  simp [Bc, Df, De, Fd, h8, h37, h44, h54, h57, h60, h63, h66, h69, h73, h77]
 rw [e] at hk
 exact hk _ _ (fun L' => (F6 (.cons .nl (F6 (.cons .nl (K5 (.cons .nl (Hz (.cons .nl (.cons .ro (.cons .nl .nil))))))))))) s80.tail.tail.tail
 refine Bt h77 (Ae s7 (.here) rfl (Bg (cs' := [si p.fType, bF, i0, bF, i0, sE, .nl, sE, i0, bF, i0, bF, sE, .nl, i0, bF, bF, sE, bF, .nl, i0, bF, .nl, .nl, .nl]) s7 A1 (Ac rfl) rfl (A9 rfl) rfl fun H s81 => Ae s81 (.here) rfl ?_))
 have e : Bc true p = (⟨p.fType, false, 0, false, 0, ⟨#[]⟩, ⟨#[]⟩, ⟨#[]⟩, 0, false, 0, false, ⟨#[]⟩, ⟨#[]⟩, 0, false, false, ⟨#[]⟩, false, ⟨#[]⟩, 0, false, [], [], []⟩ : Az) := by
  simp only [F4] at h8 h37 h44 h54 h57 h60 h63 h66 h69 h73 h77
  simp [Bc, Df, De, Fd, h8, h37, h44, h54, h57, h60, h63, h66, h69, h73, h77]
 rw [e] at hk
 exact hk _ _ (fun L' => (F6 (.cons .nl (F6 (.cons .nl (K5 (.cons .nl (Hz (.cons .nl (.cons .nl (.cons .nl .nil))))))))))) s81.tail.tail.tail
end
section
open Go
def El (t i : Int) : Az := ⟨t, false, 0, false, i, ⟨#[]⟩, ⟨#[]⟩, ⟨#[]⟩, 0, false, 0, false, ⟨#[]⟩, ⟨#[]⟩, 0, false, false, ⟨#[]⟩, false, ⟨#[]⟩, 0, false, [], [], []⟩
def Od (t i : Int) : Az := if Ge i 1 65535 = true then El t i else Ho
abbrev Al (i : Int) : Az := Od 6 i
theorem AaR (pc : Bool) (i : Int) : C1 (El 6 i) (Bc pc (El 6 i)) = true := by
 simp [C1, Ke, Fv, Bc, Fd, El, Fs, Ia]
theorem Vp (n : Nat) (hn : 1048576 < n) (i : Int) : Cs E0 (n + 2) 4 44 [.sc (.int .i64 i)] = some (.sc (.bool (Ge i 1 65535))) := by
 rw [Bb, Adk, f44]
 refine G0 (G := (· = some (sb (Ge i 1 65535)))) ?_
 try simp only [Qg, Qf]
 have s0 : Sep [] [] := Gz
 refine Co (v := (.bool (Ge i 1 65535))) s0 rfl (vS3 .nil) (Jl n _ i 1 65535) (Dn rfl ?_)
 first | rfl | (simp_all; done)
theorem AeH (n : Nat) (hn : 1048576 < n) (i : Int) : Cs E0 (n + 3) 4 102 [.agg (Bd (El 6 i))] = some (.sc (.bool (Ge i 1 65535))) := by
 rw [Bb, Aff, f102]
 refine G0 (G := (· = some (sb (Ge i 1 65535)))) ?_
 try simp only [Qg, Qf]
 have s0 : Sep [] [] := Gz
 refine Ms s0 (F8 (Dv _)) fun i1 H s2 => Am (o' := 0) rfl (A0 (c := si ((El 6 i).fType)) s2 (.here) rfl (Co (v := (.bool (Ge ((El 6 i).fType) 1 14))) s2 rfl (vS3 .nil) (Oz (n + 1) _ ((El 6 i).fType) 1 14) (He (A6 (nF rfl) (Ae s2 (.here) rfl (Gd.bothE ?_ ?_))))))
 ·refine A6 (nF rfl) (Ae s2 (.here) rfl (A6 (nF rfl) (Hh rfl rfl (Th (n + 1) (by omega) (El 6 i) s2 fun Rs3 H hRs3 s3 => A6 (nF rfl) (Co (v := (.bool (C1 (El 6 i) (Bc true (El 6 i))))) s3 rfl (.aggF (Dv _) (.agg (hRs3 _) .nil)) (Mg n (by omega) _ (El 6 i) (Bc true (El 6 i)) (zaN _) (zaN _) (zaN _)) (A6 (nF rfl) (He (F3 (nF rfl) (Bt (nF (AaR true i)) (Am (o' := 4) rfl (A0 (c := si ((El 6 i).fId)) s3 (.here) rfl (Co (v := (.bool (Ge ((El 6 i).fId) 1 65535))) s3 rfl (vS3 .nil) (Oz (n + 1) _ ((El 6 i).fId) 1 65535) (Am (o' := 0) rfl (A0 (c := si ((El 6 i).fType)) s3 (.here) rfl (Bp (Bt rfl (Bp (Bt rfl (Bp (Bt rfl (Bp (Hw (Bt rfl (Bp (Bt rfl (Bp (Bt rfl (Bp (Bt rfl (Bp (Bt rfl (Bp (Bt rfl (Dn rfl ?_))))))))))))))))))))))))))))))))))
  first | rfl | (simp_all; done)
 ·refine A6 (nF rfl) (Hh rfl rfl (Th (n + 1) (by omega) (El 6 i) s2 fun Rs4 H hRs4 s4 => A6 (nF rfl) (Ae s4 (.here) rfl (A6 (nF rfl) (Co (v := (.bool (C1 (El 6 i) (Bc true (El 6 i))))) s4 rfl (.aggF (Dv _) (.agg (hRs4 _) .nil)) (Mg n (by omega) _ (El 6 i) (Bc true (El 6 i)) (zaN _) (zaN _) (zaN _)) (A6 (nF rfl) (He (F3 (nF rfl) (Bt (nF (AaR true i)) (Am (o' := 4) rfl (A0 (c := si ((El 6 i).fId)) s4 (.here) rfl (Co (v := (.bool (Ge ((El 6 i).fId) 1 65535))) s4 rfl (vS3 .nil) (Oz (n + 1) _ ((El 6 i).fId) 1 65535) (Am (o' := 0) rfl (A0 (c := si ((El 6 i).fType)) s4 (.here) rfl (Bp (Bt rfl (Bp (Bt rfl (Bp (Bt rfl (Bp (Hw (Bt rfl (Bp (Bt rfl (Bp (Bt rfl (Bp (Bt rfl (Bp (Bt rfl (Bp (Bt rfl (Dn rfl ?_))))))))))))))))))))))))))))))))))
  first | rfl | (simp_all; done)
theorem Ach (n : Nat) (hn : 1048576 < n) (i : Int) : Cs E0 (n + 4) 41 65 [.sc (.int .i64 6), .sc (.int .i64 i)] = some (.agg (Bd (Od 6 i))) := by
 rw [Bb, AhJ, f65]
 refine G0 (G := (· = some (.agg (Bd (Od 6 i))))) ?_
 try simp only [Qg, Qf]
 have s0 : Sep [] [] := Gz
 refine Dc s0 fun i1 H s2 => Bk (cs := [si 6, bF, i0, bF, si i, sE, .nl, sE, i0, bF, i0, bF, sE, .nl, i0, bF, bF, sE, bF, .nl, i0, bF, .nl, .nl, .nl]) rfl (Dc s2 fun i3 H s4 => Bg (cs' := [si 6, bF, i0, bF, si i, sE, .nl, sE, i0, bF, i0, bF, sE, .nl, i0, bF, bF, sE, bF, .nl, i0, bF, .nl, .nl, .nl]) s4 (.here) (Ac rfl) rfl (A9 rfl) rfl fun H s5 => Co (v := (.bool (Ge 6 4 7))) s5 rfl (vS3 .nil) (Oz (n + 2) _ 6 4 7) (He (Dx (nF rfl) (Dx (nF rfl) (F3 (nF rfl) (A6 rfl (Ae s5 (.here) rfl (A6 rfl (Co (v := (.bool (Ge i 1 65535))) s5 rfl (.agg (F6 (.cons .nl (F6 (.cons .nl (K5 (.cons .nl (Hz (.cons .nl (.cons .nl (.cons .nl .nil)))))))))) .nil) (AeH n (by omega) i) (A6 rfl (He (F3 rfl (Af ((Ge i 1 65535)) (fun h6 => ?_) fun h6 => ?_)))))))))))))
 refine Bt (nF h6) (Ae s5 (.here) rfl (Bg (cs' := [si 6, bF, i0, bF, si i, sE, .nl, sE, i0, bF, i0, bF, sE, .nl, i0, bF, bF, sE, bF, .nl, i0, bF, .nl, .nl, .nl]) s5 A1 (Ac rfl) rfl (A9 rfl) rfl fun H s7 => Ae s7 (.here) rfl (Dn (Nf s7 ⟨_, rfl, rfl⟩ (G6 (.nl (G6 (.nl (Mk (.nl (.sc (.sc (.nl (.nl (.nl .nil))))))))))) (G7 ⟨Dp, (G7 ⟨Dp, (Mi ⟨Dp, (K4 ⟨Dp, ⟨Dp, ⟨Dp, trivial⟩⟩⟩)⟩)⟩)⟩)) ?_)))
 have e8 : Od 6 i = (⟨6, false, 0, false, i, ⟨#[]⟩, ⟨#[]⟩, ⟨#[]⟩, 0, false, 0, false, ⟨#[]⟩, ⟨#[]⟩, 0, false, false, ⟨#[]⟩, false, ⟨#[]⟩, 0, false, [], [], []⟩ : Az) := by
  clear s0 s2 s4 s5 s7
  try simp only [bne_iff_ne, beq_iff_eq, beq_eq_false_iff_ne, F4] at h6
  first | assumption | (simp only [Od, El, Ho, h6, if_true, if_false, zal]; first | done | rfl)
 ·rw [e8]
  first | done | rfl
 refine Ci (nT h6) (Bk (cs := Hl) rfl (Bg (cs' := Hl) s5 A1 (Ac rfl) rfl (A9 rfl) rfl fun H s9 => Ae s9 (.here) rfl (Dn (Nf s9 ⟨_, rfl, rfl⟩ (G6 (.nl (G6 (.nl (Mk (.nl (.sc (.sc (.nl (.nl (.nl .nil))))))))))) (G7 ⟨Dp, (G7 ⟨Dp, (Mi ⟨Dp, (K4 ⟨Dp, ⟨Dp, ⟨Dp, trivial⟩⟩⟩)⟩)⟩)⟩)) ?_)))
 have e10 : Od 6 i = (⟨0, false, 0, false, 0, ⟨#[]⟩, ⟨#[]⟩, ⟨#[]⟩, 0, false, 0, false, ⟨#[]⟩, ⟨#[]⟩, 0, false, false, ⟨#[]⟩, false, ⟨#[]⟩, 0, false, [], [], []⟩ : Az) := by
  clear s0 s2 s4 s5 s9
  try simp only [bne_iff_ne, beq_iff_eq, beq_eq_false_iff_ne, F4] at h6
  first | assumption | (simp only [Od, El, Ho, h6, if_true, if_false, zal]; first | done | rfl)
 ·rw [e10]
  first | done | rfl
theorem Pe (n : Nat) (hn : 1048576 < n) (i : Int) : Cs E0 (n + 4) 41 65 [.sc (.int .i64 6), .sc (.int .i64 i)] = some (.agg (Bd (Al i))) := Ach n hn i
theorem Wy (n : Nat) (hn : 1048576 < n) (i : Int) : Cs E0 (n + 3) 4 12 [.agg (Bd (El 6 i))] = some (.sc (.bool (Ge i 1 65535))) := by
 rw [Bb, AcQ, f12]
 refine G0 (G := (· = some (sb (Ge i 1 65535)))) ?_
 try simp only [Qg, Qf]
 have s0 : Sep [] [] := Gz
 refine Ms s0 (F8 (Dv _)) fun i1 H s2 => Am (o' := 0) rfl (A0 (c := si ((El 6 i).fType)) s2 (.here) rfl (Co (v := (.bool (Ge ((El 6 i).fType) 1 14))) s2 rfl (vS3 .nil) (Jl (n + 1) _ ((El 6 i).fType) 1 14) (He (A6 (nF rfl) (Ae s2 (.here) rfl (Gd.bothE ?_ ?_))))))
 ·refine A6 (nF rfl) (Ae s2 (.here) rfl (A6 (nF rfl) (Hh rfl rfl (L4 (n + 1) (by omega) (El 6 i) s2 fun Rs3 H hRs3 s3 => A6 (nF rfl) (Co (v := (.bool (C1 (El 6 i) (Bc false (El 6 i))))) s3 rfl (.aggF (Dv _) (.agg (hRs3 _) .nil)) (Gp n (by omega) _ (El 6 i) (Bc false (El 6 i)) (zaN _) (zaN _) (zaN _)) (A6 (nF rfl) (He (F3 (nF rfl) (Bt (nF (AaR false i)) (Am (o' := 0) rfl (A0 (c := si ((El 6 i).fType)) s3 (.here) rfl (Bp (Bt rfl (Bp (Bt rfl (Bp (Bt rfl (Bp (Hw (Bt rfl (Bp (Bt rfl (Bp (Ci rfl (Ci rfl (Am (o' := 4) rfl (A0 (c := si ((El 6 i).fId)) s3 (.here) rfl (Co (v := (.bool (Ge ((El 6 i).fId) 1 65535))) s3 rfl (.cons .sc .nil) (Vp n (by omega) ((El 6 i).fId)) (Dn rfl ?_)))))))))))))))))))))))))))))
  first | rfl | (simp_all; done)
 ·refine A6 (nF rfl) (Hh rfl rfl (L4 (n + 1) (by omega) (El 6 i) s2 fun Rs4 H hRs4 s4 => A6 (nF rfl) (Ae s4 (.here) rfl (A6 (nF rfl) (Co (v := (.bool (C1 (El 6 i) (Bc false (El 6 i))))) s4 rfl (.aggF (Dv _) (.agg (hRs4 _) .nil)) (Gp n (by omega) _ (El 6 i) (Bc false (El 6 i)) (zaN _) (zaN _) (zaN _)) (A6 (nF rfl) (He (F3 (nF rfl) (Bt (nF (AaR false i)) (Am (o' := 0) rfl (A0 (c := si ((El 6 i).fType)) s4 (.here) rfl (Bp (Bt rfl (Bp (Bt rfl (Bp (Bt rfl (Bp (Hw (Bt rfl (Bp (Bt rfl (Bp (Ci rfl (Ci rfl (Am (o' := 4) rfl (A0 (c := si ((El 6 i).fId)) s4 (.here) rfl (Co (v := (.bool (Ge ((El 6 i).fId) 1 65535))) s4 rfl (.cons .sc .nil) (Vp n (by omega) ((El 6 i).fId)) (Dn rfl ?_)))))))))))))))))))))))))))))
  first | rfl | (simp_all; done)
theorem AbR (n : Nat) (hn : 1048576 < n) (i : Int) : Cs E0 (n + 4) 41 42 [.sc (.int .i64 6), .sc (.int .i64 i)] = some (.agg (Bd (Od 6 i))) := by
 rw [Bb, Ah2, f42]
 refine G0 (G := (· = some (.agg (Bd (Od 6 i))))) ?_
 try simp only [Qg, Qf]
 have s0 : Sep [] [] := Gz
 refine Dc s0 fun i1 H s2 => Bk (cs := [si 6, bF, i0, bF, si i, sE, .nl, sE, i0, bF, i0, bF, sE, .nl, i0, bF, bF, sE, bF, .nl, i0, bF, .nl, .nl, .nl]) rfl (Dc s2 fun i3 H s4 => Bg (cs' := [si 6, bF, i0, bF, si i, sE, .nl, sE, i0, bF, i0, bF, sE, .nl, i0, bF, bF, sE, bF, .nl, i0, bF, .nl, .nl, .nl]) s4 (.here) (Ac rfl) rfl (A9 rfl) rfl fun H s5 => Co (v := (.bool (Ge 6 4 7))) s5 rfl (vS3 .nil) (Jl (n + 2) _ 6 4 7) (He (Dx (nF rfl) (Dx (nF rfl) (F3 (nF rfl) (A6 rfl (Ae s5 (.here) rfl (A6 rfl (Co (v := (.bool (Ge i 1 65535))) s5 rfl (.agg (F6 (.cons .nl (F6 (.cons .nl (K5 (.cons .nl (Hz (.cons .nl (.cons .nl (.cons .nl .nil)))))))))) .nil) (Wy n (by omega) i) (A6 rfl (He (F3 rfl (Af ((Ge i 1 65535)) (fun h6 => ?_) fun h6 => ?_)))))))))))))
 refine Bt (nF h6) (Ae s5 (.here) rfl (Bg (cs' := [si 6, bF, i0, bF, si i, sE, .nl, sE, i0, bF, i0, bF, sE, .nl, i0, bF, bF, sE, bF, .nl, i0, bF, .nl, .nl, .nl]) s5 A1 (Ac rfl) rfl (A9 rfl) rfl fun H s7 => Ae s7 (.here) rfl (Dn (Nf s7 ⟨_, rfl, rfl⟩ (G6 (.nl (G6 (.nl (Mk (.nl (.sc (.sc (.nl (.nl (.nl .nil))))))))))) (G7 ⟨Dp, (G7 ⟨Dp, (Mi ⟨Dp, (K4 ⟨Dp, ⟨Dp, ⟨Dp, trivial⟩⟩⟩)⟩)⟩)⟩)) ?_)))
 have e8 : Od 6 i = (⟨6, false, 0, false, i, ⟨#[]⟩, ⟨#[]⟩, ⟨#[]⟩, 0, false, 0, false, ⟨#[]⟩, ⟨#[]⟩, 0, false, false, ⟨#[]⟩, false, ⟨#[]⟩, 0, false, [], [], []⟩ : Az) := by
  clear s0 s2 s4 s5 s7
  try simp only [bne_iff_ne, beq_iff_eq, beq_eq_false_iff_ne, F4] at h6
  first | assumption | (simp only [Od, El, Ho, h6, if_true, if_false, zal]; first | done | rfl)
 ·rw [e8]
  first | done | rfl
 refine Ci (nT h6) (Bk (cs := Hl) rfl (Bg (cs' := Hl) s5 A1 (Ac rfl) rfl (A9 rfl) rfl fun H s9 => Ae s9 (.here) rfl (Dn (Nf s9 ⟨_, rfl, rfl⟩ (G6 (.nl (G6 (.nl (Mk (.nl (.sc (.sc (.nl (.nl (.nl .nil))))))))))) (G7 ⟨Dp, (G7 ⟨Dp, (Mi ⟨Dp, (K4 ⟨Dp, ⟨Dp, ⟨Dp, trivial⟩⟩⟩)⟩)⟩)⟩)) ?_)))
 have e10 : Od 6 i = (⟨0, false, 0, false, 0, ⟨#[]⟩, ⟨#[]⟩, ⟨#[]⟩, 0, false, 0, false, ⟨#[]⟩, ⟨#[]⟩, 0, false, false, ⟨#[]⟩, false, ⟨#[]⟩, 0, false, [], [], []⟩ : Az) := by
  clear s0 s2 s4 s5 s9
  try simp only [bne_iff_ne, beq_iff_eq, beq_eq_false_iff_ne, F4] at h6
  first | assumption | (simp only [Od, El, Ho, h6, if_true, if_false, zal]; first | done | rfl)
 ·rw [e10]
  first | done | rfl
theorem Mx (n : Nat) (hn : 1048576 < n) (i : Int) : Cs E0 (n + 4) 41 42 [.sc (.int .i64 6), .sc (.int .i64 i)] = some (.agg (Bd (Al i))) := AbR n hn i
theorem AeR (t i : Int) : Fw (Od t i) = 0 := by
 unfold Od
 split <;> rfl
end
section
open Go
section
variable {β : Type} {n : Nat} {H : Ab} {L L' L1 L2 : List Ck} {G : Option β → Prop} {K : AV → Option β} {KH : KO β}
theorem Xk {d : Nat} : ∀ {ts : List Nat} {xs cells : List AV} {I : List Nat} {k : Nat} {v v' : Value}, Cg (B4 Ar E0.tp H (d + 1)) ts xs = some (cells, I) → cells[k]? = some (.sc v) → Cg (B4 Ar E0.tp H (d + 1)) ts (xs.set k (.sc v')) = some (cells.set k (.sc v'), I)
 | ts, [], cells, I, k, v, v', h, hk => by
  obtain ⟨_, e⟩ := I9 h
  cases e
  simp at hk
 | [], _ :: _, _, _, _, _, _, h, _ => by simp [Cg] at h
 | t :: ts, x :: xs, cells, I, k, v, v', h, hk => by
  obtain ⟨a, b, h1, h2, e⟩ := Fc h
  cases e
  cases k with
  | zero =>
   obtain ⟨a1, a2⟩ := a
   have : a1 = .sc v := by simpa using hk
   subst this
   have hx := Zu h1
   subst hx
   have e2 : ([] : List Nat) = a2 := by
    have : (AV.sc v, ([] : List Nat)) = (.sc v, a2) := Option.some.inj h1
    cases this
    rfl
   subst e2
   show Cg _ (t :: ts) (.sc v' :: xs) = some (.sc v' :: b.1, [] ++ b.2)
   rw [Cg, I8, zab, h2]
   rfl
  | succ k =>
   have ih := Xk (v' := v') h2 (by simpa using hk)
   show Cg _ (t :: ts) (x :: xs.set k (.sc v')) = some (a.1 :: b.1.set k (.sc v'), a.2 ++ b.2)
   rw [Cg, h1, zab, ih]
   rfl
theorem Xf {d : Nat} : ∀ {ts : List Nat} {cs : List AV} {k : Nat} {v' : Value}, Es (Gr Ar E0.tp (d + 1)) ts cs → Es (Gr Ar E0.tp (d + 1)) ts (cs.set k (.sc v'))
 | [], [], _, _, h => h
 | t :: ts, c :: cs, 0, v', h => ⟨trivial, h.2⟩
 | t :: ts, c :: cs, k + 1, v', h => ⟨h.1, Xf h.2⟩
 | [], _ :: _, _, _, h => by cases h
 | _ :: _, [], _, _, h => by cases h
theorem Xt {α : Type} {enc : α → List AV} {w : Nat} (hw : ∀ x, (enc x).length = w) {l : List α} {i k : Nat} {y y' : α} {v : AV} (hy : l[i]? = some y) (hk : k < w) (he : enc y' = (enc y).set k v) : ((l.map enc).flatten).set (i * w + k) v = ((l.set i y').map enc).flatten := by
 induction l generalizing i with
 | nil => simp at hy
 | cons x l ih =>
  cases i with
  | zero =>
   have : x = y := by simpa using hy
   subst this
   rw [List.set_cons_zero, zau, zau, zaE, zaE, he, Nat.zero_mul, zaw, List.set_append_left _ _ (by rw [hw]; exact hk)]
  | succ i =>
   have := ih (i := i) (by simpa using hy)
   rw [List.set_cons_succ, zau, zau, zaE, zaE, List.set_append_right _ _ (by rw [hw, zaM]; omega), hw, show (i + 1) * w + k - w = i * w + k by rw [zaM]; omega, this]
theorem Aci {cs : List AV} {o : Nat} {v : AV} (h : o < cs.length) : Cl cs o [v] = cs.set o v := by
 unfold Cl
 rw [List.set_eq_take_append_cons_drop, if_pos h]
 simp
theorem Ik {α : Type} {enc : α → List AV} {w ty k : Nat} {cty : List Nat} {x : AV} {l : List α} {y y' : α} {i : Int} {v v' : Value} {KS : Ab → Option β} (hs : Sep H L) (hty : ∃ i j, Ar ty = some i ∧ Ar i.elem = some j ∧ j.size = w ∧ j.cty = cty) (hp : Pk L (.own x ty (Ai enc l)) L1)
  (hi : 0 ≤ i) (hy : l[i.toNat]? = some y) (hw : ∀ x, (enc x).length = w) (hk : k < w) (hv : (enc y)[k]? = some (.sc v)) (hl : Ap (.sc v') = true) (he : enc y' = (enc y).set k (.sc v'))
  (h : ∀ H', Sep H' (.own x ty (Ai enc (l.set i.toNat y')) :: L1) → Gd G (KS H')) : Gd G (Fa w x (si i) fun t => Ej k t fun t => Ew 1 t (.sc v') H fun H => KS H) := by
 obtain ⟨ti, tj, e1, e2, rfl, rfl⟩ := hty
 obtain ⟨I, ⟨J, R, rfl, ⟨hlf, hok, e⟩, h2⟩, h3⟩ := hs.pick hp
 have hlt : i.toNat < l.length := (zac.1 hy).1
 rcases Kq e1 e2 e with ⟨rfl, h0, _, _⟩ | ⟨id, off, raw, J', b, rfl, rfl, hb, hlv, ha, h4, h5⟩
 omega
 obtain ⟨hl4, b', hb', _, hle, hcs⟩ := Gy h4
 rw [hb] at hb'
 cases hb'
 have hm : (i.toNat + 1) * tj.size ≤ l.length * tj.size := za7 _ hlt
 rw [zaM, zbt] at hm
 have hlc : ((l.map enc).flatten).length = l.length * tj.size := Fh hw l
 have hcv : ((l.map enc).flatten)[i.toNat * tj.size + k]? = some (.sc v) := by
  have key : ∀ (l : List α) (i : Nat), l[i]? = some y → ((l.map enc).flatten)[i * tj.size + k]? = some (.sc v) := by
   intro l
   induction l with
   | nil => intro i hi; simp at hi
   | cons z l ih =>
    intro i hi
    cases i with
    | zero =>
     have : z = y := by simpa using hi
     subst this
     rw [zau, zaE, zaf (by rw [hw]; omega), Nat.zero_mul, zaw, hv]
    | succ i =>
     rw [zau, zaE, zae (by rw [hw, zaM]; omega), hw, show (i + 1) * tj.size + k - tj.size = i * tj.size + k by rw [zaM]; omega]
     exact ih i (by simpa using hi)
  exact key l i.toNat hy
 have hid : id < H.length := (zac.1 hb).1
 refine Or hi (by omega) (Am (o' := off + (i.toNat * tj.size + k)) (by omega) ?_)
 have hst := Ip 1 id (off + (i.toNat * tj.size + k)) (.sc v') b [.sc v'] H (fun H => KS H) hb (by show (if Ap (.sc v') = true then some [AV.sc v'] else none) = _; rw [if_pos hl]) rfl (by omega) hlv
 refine Dr hst (h _ ?_)
 have hnd := zaH.1 (show (id :: (J' ++ R)).Nodup from h3)
 have hfr : ∀ z, z ≠ id → (H.set id { b with cells := Cl b.cells (off + (i.toNat * tj.size + k)) [.sc v'] })[z]? = H[z]? := fun z hz => za1 (fun e => hz e.symm)
 have hRf : SepI (H.set id { b with cells := Cl b.cells (off + (i.toNat * tj.size + k)) [.sc v'] }) L1 R := h2.frame fun z hz => hfr z (fun e => hnd.1 (e ▸ zap _ hz))
 have h6 := Eg (f' := B4 Ar E0.tp (H.set id { b with cells := Cl b.cells (off + (i.toNat * tj.size + k)) [.sc v'] }) 5) (fun t x a h hi => C7 5 t x a h fun z hz => hfr z (fun e => hnd.1 (e ▸ zas _ (hi z hz)))) h5
 have h7 := Xk (v' := v') h6 hcv
 rw [Xt hw hy hk he] at h7
 refine ⟨(id :: J') ++ R, ⟨id :: J', R, rfl, ⟨rfl, ?_, ?_⟩, hRf⟩, h3⟩
 obtain ⟨i', j', q1, q2, q3, q4⟩ := hok
 rw [e1] at q1
 cases q1
 rw [e2] at q2
 cases q2
 refine ⟨ti, tj, e1, e2, ?_, ?_⟩
 show ((l.set i.toNat y').map enc).flatten.length = (l.set i.toNat y').length * tj.size
 rw [Fh hw]
 have q5 := Xf (d := 4) (k := i.toNat * tj.size + k) (v' := v') q4
 rw [Xt hw hy hk he] at q5
 rw [zbh]
 exact q5
 have hg : (H.set id { b with cells := Cl b.cells (off + (i.toNat * tj.size + k)) [.sc v'] })[id]? = some { b with cells := Cl b.cells (off + (i.toNat * tj.size + k)) [.sc v'] } := zbf hid
 rw [show Ai enc (l.set i.toNat y') = .ro (l.set i.toNat y').length (((l.set i.toNat y').map enc).flatten) from rfl, zbh, Gn]
 have hap : Ga (H.set id { b with cells := Cl b.cells (off + (i.toNat * tj.size + k)) [.sc v'] }) id = true := by simp only [Ga, hg]; exact ha
 have hrd : Ax (H.set id { b with cells := Cl b.cells (off + (i.toNat * tj.size + k)) [.sc v'] }) id off (l.length * tj.size) = some (raw.set (i.toNat * tj.size + k) (.sc v')) := by
  unfold Ax
  rw [hg]
  simp only [hlv, if_true]
  rw [Aci (by omega), if_pos (by rw [zbh]; omega), hcs]
  congr 1
  rw [List.drop_set, if_neg (by omega), List.take_set]
  congr 1
  omega
 simp only [e1, e2, zab, if_true, hap, hrd, h7]
theorem Ja {f : Nat → AV → Option (AV × List Nat)} : ∀ {ts1 ts2 : List Nat} {xs cells : List AV} {I : List Nat}, Cg f (ts1 ++ ts2) xs = some (cells, I) → ts1.length ≤ xs.length → ∃ I1 I2, Cg f ts1 (xs.take ts1.length) = some (cells.take ts1.length, I1) ∧ Cg f ts2 (xs.drop ts1.length) = some (cells.drop ts1.length, I2) ∧ I = I1 ++ I2
 | [], ts2, xs, cells, I, h, _ => ⟨[], I, by simp [Cg], by simpa using h, rfl⟩
 | t :: ts1, ts2, [], cells, I, h, hl => by simp at hl
 | t :: ts1, ts2, x :: xs, cells, I, h, hl => by
  obtain ⟨a, b, h1, h2, e⟩ := Fc h
  cases e
  obtain ⟨I1, I2, g1, g2, g3⟩ := Ja (ts1 := ts1) (ts2 := ts2) h2 (by simpa using hl)
  refine ⟨a.2 ++ I1, I2, ?_, by simpa using g2, by rw [g3, zaj]⟩
  show Cg f (t :: ts1) (x :: xs.take ts1.length) = some (a.1 :: b.1.take ts1.length, a.2 ++ I1)
  rw [Cg, h1, zab, g1]
  rfl
theorem Oq {α : Type} {enc : α → List AV} {w bytes ty i : Nat} {cty : List Nat} {x y1 y2 : AV} {l : List α} {ys : List (AV × Nat × AV)} (hs : Sep H L) (hty : ∃ i j, Ar ty = some i ∧ Ar i.elem = some j ∧ j.size = w ∧ j.cty = cty) (hp : Pk L (.shs x ty (Ai enc l) ys) L1)
  (hi : i < l.length) (q1 : Acr w x 0 i y1) (q2 : Acr w x (i + 1) l.length y2) (hw : ∀ x, (enc x).length = w) (hf : ∀ x, (enc x).all Iq = true) (hc : cty.length = w) (hb : l.length * bytes ≤ 140737488355328)
  (h : ∀ x' H', Ap x' = true → Sep H' (.own x' ty (Ai enc (l.take i ++ l.drop (i + 1))) :: L1) → Gd G (KH x' H')) : Gd G (Ic w bytes y1 y2 H fun x H => KH x H) := by
 obtain ⟨ti, tj, e1, e2, rfl, rfl⟩ := hty
 obtain ⟨I, ⟨J, R, rfl, ⟨⟨hlf, hok, e⟩, _⟩, h2⟩, h3⟩ := hs.pick hp
 have hokc : Es (Gr Ar E0.tp 5) (zad l.length tj.cty).flatten (l.map enc).flatten := by
  obtain ⟨i', j', p1, p2, p3, p4⟩ := hok
  rw [e1] at p1
  cases p1
  rw [e2] at p2
  cases p2
  exact p4
 rcases Kq e1 e2 e with ⟨rfl, h0, _, _⟩ | ⟨id, off, raw, J', b, rfl, rfl, hbb, hlv, ha, h4, h5⟩
 omega
 obtain ⟨hl4, b', hb', _, hle, hcs⟩ := Gy h4
 rw [hbb] at hb'
 cases hb'
 have hy1 : y1 = .sl id off i tj.size := by
  rcases q1 with ⟨q, _⟩ | ⟨a1, a2, a3, q, rfl⟩
  cases q
  cases q
  simp
 have hy2 : y2 = .sl id (off + (i + 1) * tj.size) (l.length - (i + 1)) tj.size := by
  rcases q2 with ⟨q, _⟩ | ⟨a1, a2, a3, q, rfl⟩
  cases q
  cases q
  rfl
 subst hy1
 subst hy2
 have hrl : ∀ k, ((zad k tj.cty).flatten).length = k * tj.size := fun k => by simp [hc]
 have hm : (i + 1) * tj.size ≤ l.length * tj.size := za7 _ hi
 have hm1 : (i + 1) * tj.size = i * tj.size + tj.size := by rw [zaM, zbt]
 have hm2 : (l.length - (i + 1)) * tj.size = l.length * tj.size - (i + 1) * tj.size := Nat.sub_mul ..
 have hrep : (zad l.length tj.cty).flatten = (zad i tj.cty).flatten ++ ((zad 1 tj.cty).flatten ++ (zad (l.length - (i + 1)) tj.cty).flatten) := by
  have := Vy (cty := tj.cty) (show i ≤ i + 1 by omega) (show i + 1 ≤ l.length by omega)
  rw [show i + 1 - i = 1 by omega] at this
  exact this
 rw [hrep] at h5 hokc
 obtain ⟨I1, I2, g1, g2, g3⟩ := Ja h5 (by rw [hrl]; omega)
 obtain ⟨I3, I4, k1, k2, k3⟩ := Ja g2 (by rw [hrl, zaF, hrl]; omega)
 obtain ⟨o1, o2⟩ := Gm hokc
 obtain ⟨o3, o4⟩ := Gm o2
 rw [hrl] at g1 o1
 rw [hrl, hrl, zaV, zaV] at k2
 rw [hrl, hrl, zaV] at o4
 rw [zbt, ← hm1] at k2 o4
 subst g3
 subst k3
 have hc1 : ((l.map enc).flatten).take (i * tj.size) = ((l.take i).map enc).flatten := by
  have := S9 hw l 0 i (zaN _) (by omega)
  rw [Nat.zero_mul, zaA, Nat.sub_zero, zaA] at this
  exact (AV.ro.inj this).2
 have hc2 : ((l.map enc).flatten).drop ((i + 1) * tj.size) = ((l.drop (i + 1)).map enc).flatten := by
  have := S9 hw l (i + 1) l.length (by omega) (zak _)
  have h9 := (AV.ro.inj this).2
  rw [zbv (by rw [zaF, Fh hw, hm2]; exact zak _), zbv (by rw [zaF]; exact zak _)] at h9
  exact h9
 rw [hc1] at g1 o1
 rw [hc2] at k2 o4
 have hcx : Cj H tj.size (.sl id off i tj.size) = some (raw.take (i * tj.size)) := by
  show (if tj.size = tj.size then Ax H id off (i * tj.size) else none) = _
  simp only [Ax, hbb, hlv, if_true]
  rw [if_pos (by omega), hcs, zbI, zaK (by omega)]
 have hcy : Cj H tj.size (.sl id (off + (i + 1) * tj.size) (l.length - (i + 1)) tj.size) = some (raw.drop ((i + 1) * tj.size)) := by
  show (if tj.size = tj.size then Ax H id (off + (i + 1) * tj.size) ((l.length - (i + 1)) * tj.size) else none) = _
  simp only [Ax, hbb, hlv, if_true]
  rw [if_pos (by omega), hcs, zbH, zaV, hm2]
 have hk : L5 H (.sl id off i tj.size) = some (H.set id { b with live := false }) := by
  show (H[id]?).bind (fun b => if b.app then some (H.set id { b with live := false }) else none) = _
  rw [hbb, zab, if_pos ha]
 have hlfy : (raw.drop ((i + 1) * tj.size)).all Ap = true := Nb (fun t x a I h hl => S4 h hl) k2 (by
  show (((l.drop (i + 1)).map enc).flatten).all Iq = true
  rw [List.all_flatten, List.all_map, za3]
  intro z _
  exact hf z)
 have hnd := zaH.1 (show (id :: ((I1 ++ (I3 ++ I4)) ++ R)).Nodup from h3)
 have hfr : ∀ z, z ≠ id → z < H.length → (H.set id { b with live := false } ++ [⟨raw.take (i * tj.size) ++ raw.drop ((i + 1) * tj.size), true, true⟩])[z]? = H[z]? := fun z hz hl => by
  rw [zaf (by rw [zbh]; exact hl), za1 (fun e => hz e.symm)]
 have hJlt : ∀ z ∈ I1 ++ (I3 ++ I4), z < H.length := fun z hz => Kx 6 ty _ _ e z (zat _ hz)
 have hmem : ∀ z ∈ I1 ++ (I3 ++ I4), z ≠ id := fun z hz e => hnd.1 (e ▸ zas _ hz)
 refine Dr (b := KH (.sl (H.set id { b with live := false }).length 0 (i + (l.length - (i + 1))) tj.size) (H.set id { b with live := false } ++ [⟨raw.take (i * tj.size) ++ raw.drop ((i + 1) * tj.size), true, true⟩])) ?_ (h _ _ rfl ?_)
 have hl0 : G2 (.sl id off i tj.size) = some i := rfl
 have hl1 : G2 (.sl id (off + (i + 1) * tj.size) (l.length - (i + 1)) tj.size) = some (l.length - (i + 1)) := rfl
 have hbb2 : (i + (l.length - (i + 1))) * bytes ≤ 140737488355328 := zaz (za7 _ (by omega)) hb
 simp only [Ic, hl0, hl1, zab, hcx, hcy, hk]
 rw [if_pos hbb2, if_pos hlfy]
 rfl
 have a1 := Eg (f' := B4 Ar E0.tp (H.set id { b with live := false } ++ [⟨raw.take (i * tj.size) ++ raw.drop ((i + 1) * tj.size), true, true⟩]) 5) (fun t x a h hi => C7 5 t x a h fun z hz => by
  have := hi z hz
  exact hfr z (hmem z (zas _ this)) (hJlt z (zas _ this))) g1
 have a2 := Eg (f' := B4 Ar E0.tp (H.set id { b with live := false } ++ [⟨raw.take (i * tj.size) ++ raw.drop ((i + 1) * tj.size), true, true⟩]) 5) (fun t x a h hi => C7 5 t x a h fun z hz => by
  have := hi z hz
  exact hfr z (hmem z (zap _ (zap _ this))) (hJlt z (zap _ (zap _ this)))) k2
 have a3 := H7 a1 a2
 rw [← zax, zaB, ← zax, ← za5] at a3
 have hlen : (l.take i ++ l.drop (i + 1)).length = i + (l.length - (i + 1)) := by
  rw [zag, za6, zaF, zaK (by omega)]
 have hR : SepI (H.set id { b with live := false } ++ [⟨raw.take (i * tj.size) ++ raw.drop ((i + 1) * tj.size), true, true⟩]) L1 R := h2.frame fun z hz => hfr z (fun e => hnd.1 (e ▸ zap _ hz)) (h2.lt z hz)
 have hg : (H.set id { b with live := false } ++ [(⟨raw.take (i * tj.size) ++ raw.drop ((i + 1) * tj.size), true, true⟩ : Hf)])[(H.set id { b with live := false }).length]? = some ⟨raw.take (i * tj.size) ++ raw.drop ((i + 1) * tj.size), true, true⟩ := by
  rw [zae (zak _), zaO]
  rfl
 refine ⟨((H.set id { b with live := false }).length :: (I1 ++ I4)) ++ R, ⟨(H.set id { b with live := false }).length :: (I1 ++ I4), R, rfl, ⟨rfl, ?_, ?_⟩, hR⟩, ?_⟩
 refine ⟨ti, tj, e1, e2, Fh hw _, ?_⟩
 show Es _ (zad (l.take i ++ l.drop (i + 1)).length tj.cty).flatten ((l.take i ++ l.drop (i + 1)).map enc).flatten
 rw [hlen, ← zaB]
 simp only [za5, zax]
 exact G4 o1 o4
 show B4 Ar E0.tp _ 6 ty _ = some (.ro (l.take i ++ l.drop (i + 1)).length (((l.take i ++ l.drop (i + 1)).map enc).flatten), _)
 rw [hlen, Gn]
 have hap : Ga (H.set id { b with live := false } ++ [⟨raw.take (i * tj.size) ++ raw.drop ((i + 1) * tj.size), true, true⟩]) (H.set id { b with live := false }).length = true := by simp only [Ga, hg]
 have hrd : Ax (H.set id { b with live := false } ++ [⟨raw.take (i * tj.size) ++ raw.drop ((i + 1) * tj.size), true, true⟩]) (H.set id { b with live := false }).length 0 ((i + (l.length - (i + 1))) * tj.size) = some (raw.take (i * tj.size) ++ raw.drop ((i + 1) * tj.size)) := by
  have hll : (raw.take (i * tj.size) ++ raw.drop ((i + 1) * tj.size)).length = (i + (l.length - (i + 1))) * tj.size := by
   rw [zag, za6, zaF, hl4, zaM i (l.length - (i + 1)) tj.size, hm2, zaK (by omega)]
  simp only [Ax, hg, if_true, zaw, zaA, ← hll, zak, za0]
 simp only [e1, e2, zab, if_true, hap, hrd, a3]
 rw [zar, zaH, zbh]
 refine ⟨fun hm => ?_, ?_⟩
 rcases zaJ.1 hm with hm | hm
 have : H.length < H.length := hJlt _ (by
  rcases zaJ.1 hm with hm | hm
  exact zas _ hm
  exact zap _ (zap _ hm))
 omega
 have := h2.lt _ hm
 omega
 have hn := hnd.2
 have hsub : ((I1 ++ I4) ++ R).Sublist ((I1 ++ (I3 ++ I4)) ++ R) := List.Sublist.append (List.Sublist.append (List.Sublist.refl _) (List.sublist_append_right _ _)) (List.Sublist.refl _)
 exact hn.sublist hsub
end
end
section
open Go
section
variable {β : Type} {n : Nat} {H : Ab} {L L1 : List Ck} {G : Option β → Prop} {KH : KO β}
theorem Aj2 {α : Type} {enc : α → List AV} {w ty : Nat} {cty : List Nat} {x : AV} {l : List α} {i : Int} (hs : Sep H L) (hty : ∃ i j, Ar ty = some i ∧ Ar i.elem = some j ∧ j.size = w ∧ j.cty = cty) (hp : Pk L (.own x ty (Ai enc l)) L1)
  (h0 : 0 ≤ i) (hi : i < (l.length : Nat)) (hw : ∀ x, (enc x).length = w) (hf : ∀ x, (enc x).all Iq = true) (hc : cty.length = w)
  (h : ∀ x' H', Ap x' = true → Sep H' (.own x' ty (Ai enc (l.take i.toNat ++ l.drop (i.toNat + 1))) :: L1) → Gd G (KH x' H')) : Gd G (Ae8 w x (si i) (si (i + 1)) H fun x H => KH x H) := by
 have hty' := hty
 obtain ⟨ti, tj, e1, e2, rfl, rfl⟩ := hty
 obtain ⟨I, ⟨J, R, rfl, ⟨hlf, hok, e⟩, h2⟩, h3⟩ := hs.pick hp
 rcases Kq e1 e2 e with ⟨rfl, hn0, _, _⟩ | ⟨id, off, raw, J', b, rfl, rfl, hbb, hlv, ha, h4, h5⟩
 omega
 obtain ⟨hl4, b', hb', _, hle, hcs⟩ := Gy h4
 rw [hbb] at hb'
 cases hb'
 have hk : ∀ o m, L5 H (.sl id o m tj.size) = some (H.set id { b with live := false }) := fun o m => by
  show (H[id]?).bind (fun b => if b.app then some (H.set id { b with live := false }) else none) = _
  rw [hbb, zab, if_pos ha]
 have hi' : i.toNat < l.length := by omega
 have hm : (i.toNat + 1) * tj.size ≤ l.length * tj.size := za7 _ hi'
 have hm1 : (i.toNat + 1) * tj.size = i.toNat * tj.size + tj.size := by rw [zaM, zbt]
 have hm2 : (l.length - (i.toNat + 1)) * tj.size = l.length * tj.size - (i.toNat + 1) * tj.size := Nat.sub_mul ..
 have hlr : raw.all Ap = true := Nb (fun t x a I h hl => S4 h hl) h5 (by
  show ((l.map enc).flatten).all Iq = true
  rw [List.all_flatten, List.all_map, za3]
  intro z _
  exact hf z)
 have hcx : Cj H tj.size (.sl id off i.toNat tj.size) = some (raw.take (i.toNat * tj.size)) := by
  show (if tj.size = tj.size then Ax H id off (i.toNat * tj.size) else none) = _
  simp only [Ax, hbb, hlv, if_true]
  rw [if_pos (by omega), hcs, zbI, zaK (by omega)]
 have hcy : Cj H tj.size (.sl id (off + (i.toNat + 1) * tj.size) (l.length - (i.toNat + 1)) tj.size) = some (raw.drop ((i.toNat + 1) * tj.size)) := by
  show (if tj.size = tj.size then Ax H id (off + (i.toNat + 1) * tj.size) ((l.length - (i.toNat + 1)) * tj.size) else none) = _
  simp only [Ax, hbb, hlv, if_true]
  rw [if_pos (by omega), hcs, zbH, zaV, hm2]
 refine Dr ?_ (Oq (bytes := 0) (i := i.toNat) (y1 := .sl id off i.toNat tj.size) (y2 := .sl id (off + (i.toNat + 1) * tj.size) (l.length - (i.toNat + 1)) tj.size) (hs.toShs hp) hty' .here hi' (.inr ⟨id, off, l.length, rfl, by simp⟩) (.inr ⟨id, off, l.length, rfl, rfl⟩) hw hf hc (by omega) h)
 have hl0 : G2 (.sl id off i.toNat tj.size) = some i.toNat := rfl
 have hl1 : G2 (.sl id (off + (i.toNat + 1) * tj.size) (l.length - (i.toNat + 1)) tj.size) = some (l.length - (i.toNat + 1)) := rfl
 have hly : (raw.drop ((i.toNat + 1) * tj.size)).all Ap = true := by
  rw [za3] at hlr ⊢
  exact fun z hz => hlr z (List.mem_of_mem_drop hz)
 simp only [Ic, hl0, hl1, zab, hcx, hcy, hk]
 rw [if_pos (by omega), if_pos hly]
 show (if _ then _ else _) = _
 rw [if_pos ⟨rfl, h0, by omega, by omega⟩, h4, zab, if_pos hlr, hk, zab, show (i + 1).toNat = i.toNat + 1 by omega, show l.length - (i + 1 - i).toNat = i.toNat + (l.length - (i.toNat + 1)) by omega]
theorem Px {α : Type} {enc : α → List AV} {w bt ty ty' f : Nat} {cty : List Nat} {x : AV} {l : List α} {i : Int} (hs : Sep H L) (hx : E0.xk f = some (false, w, bt)) (hfs : E0.fs f = none) (hh : E0.hm f = true) (he : E0.ext f = none) (hty : ∃ i j, Ar ty = some i ∧ Ar i.elem = some j ∧ j.size = w ∧ j.cty = cty) (hp : Pk L (.own x ty (Ai enc l)) L1)
  (h0 : 0 ≤ i) (hi : i < (l.length : Nat)) (hw : ∀ x, (enc x).length = w) (hf : ∀ x, (enc x).all Iq = true) (hc : cty.length = w)
  (h : ∀ x' H', Ap x' = true → Sep H' (.own x' ty (Ai enc (l.take i.toNat ++ l.drop (i.toNat + 1))) :: L1) → Gd G (KH x' H')) : Gd G ((PR (n + 1) β).call ty' (.fn f [] []) [x, si i, si (i + 1)] H fun x H => KH x H) := by
 refine Hh hh he ?_
 have e : Di E0 (n + 1) β f ([x, si i, si (i + 1)] ++ []) H (fun x H => KH x H) = Ae8 w x (si i) (si (i + 1)) H fun x H => KH x H := by
  simp only [Di, hfs, hx, zan]
  rfl
 rw [e]
 exact Aj2 hs hty hp h0 hi hw hf hc h
end
end
end Go.Proofs.YtdofipeaomgbbaaGreatDoor.Abs
