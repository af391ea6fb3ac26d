/- The law FnLocks and its row: every input, no condition (written by laws.py). -/
import Derived.Test.YtjiahcekpohehaaMe
import Derived.Test.YtjiahcekpohehaaRows
import Derived.WalkKit
import Derived.ProofKit
import Derived.OpenShut
import Derived.ShutString
import Derived.ChangeOld
import Derived.Below
import Derived.SizedLaws
set_option linter.unusedVariables false
set_option linter.unusedSimpArgs false
set_option maxRecDepth 100000
set_option maxHeartbeats 1600000
namespace Go.Proofs.Ytjiahcekpohehaa.Abs
section
open Go
theorem Acj (s : Cs) (h : I9 s ≤ 1048576) : Q9 s := by
 have h2 := Aa8 s h
 exact ⟨⟨⟨h2.1.1, fun y hy => (h2.1.2 y hy).1⟩, ⟨h2.2.1.1, fun y hy => (h2.2.1.2 y hy).1⟩⟩, h2.2.2.1⟩
def Lt (s : Cs) : Cs := if Jj s && !s.fClean then { s with fConn := -1, fGen := 0 } else s
theorem V3 (n : Nat) (hn : 1048576 < n) (x0 : Cs) (k0 : Zm x0) (b0 : I9 x0 ≤ 1048576) : Di E0 (n + 12) 117 105 [.agg (A2 x0)] = some (.agg (A2 (Lt x0))) := by
 rw [Bu, Aff, f105]
 refine Iu (G := (· = _)) ?_
 try simp only [De, Cj, Bi, A4, A6, Ew, Aw, Bx, Ch]
 have s0 : Sep [] [] := Kd
 refine Qh s0 (H8 (Gr _)) fun i1 H s2 => ?_
 refine C8 s2 fun i3 H s4 => ?_
 refine Aj s4 A8 rfl ?_
 refine E9 s4 rfl (.aggF (Gr _) .nil) (Jw (n + 6) (by omega) x0 (Acj x0 b0)) ⟨_, rfl, rfl⟩ (Kl _) ?_
 rintro _ _ H ⟨x5, x6, x7, lx5, lx6, lx7, rfl, rfl⟩ s8
 simp only [List.nil_append, List.cons_append] at s8
 refine C8 s8 fun i9 H s10 => ?_
 refine A3 (cs' := [.sc (.string x0.fClient), .sc (.int .i64 x0.fBorn), .sc (.bool x0.fClean), .sc (.int .i64 x0.fConn), .sc (.int .i64 x0.fGen), .sc (.int .i64 x0.fO.fLast), x5, x6, x7]) s10 (.here) (Ad (Aa rfl (Aa rfl (Aa rfl (Aa rfl (Aa rfl (Aa rfl (Aa lx5 (Aa lx6 (Aa lx7 rfl)))))))))) rfl (A7 rfl) rfl fun H s11 => ?_
 refine Aj s11 Lf rfl ?_
 refine F6 (v := (.bool (Jj x0))) s11 rfl (.aggF (Gr _) .nil) (Qb n (by omega) _ x0 (Lj x0 b0).1 (Lj x0 b0).2.1 (Lj x0 b0).2.2) ?_
 refine Ai ((Jj x0)) (fun h12 => ?_) (fun h12 => ?_)
 ·refine Ag h12 ?_
  refine Af (o' := 2) rfl ?_
  refine Ag h12 ?_
  refine Ay (c := .sc (.bool x0.fClean)) s11 Lf rfl ?_
  refine Ag h12 ?_
  refine F8 ?_
  refine D9 h12 ?_
  refine F3 ?_
  refine Ai (x0.fClean) (fun h13 => ?_) (fun h13 => ?_)
  ·refine B3 (nF h13) ?_
   refine Aj s11 (.here) rfl ?_
   refine A3 (cs' := [.sc (.string x0.fClient), .sc (.int .i64 x0.fBorn), .sc (.bool x0.fClean), .sc (.int .i64 x0.fConn), .sc (.int .i64 x0.fGen), .sc (.int .i64 x0.fO.fLast), x5, x6, x7]) s11 Fa (Ad (Aa rfl (Aa rfl (Aa rfl (Aa rfl (Aa rfl (Aa rfl (Aa lx5 (Aa lx6 (Aa lx7 rfl)))))))))) rfl (A7 rfl) rfl fun H s14 => ?_
   refine Aj s14 (.here) rfl ?_
   refine Dr (Nq s14 ⟨_, rfl, rfl⟩ (.sc (.sc (.sc (.sc (.sc (.sc (.own Fa (.own Cz (.own Ci .nil))))))))) ⟨trivial, ⟨trivial, ⟨trivial, ⟨trivial, ⟨trivial, ⟨trivial, ⟨(Bp (D5 x0.fO.fFl) (by decide)), ⟨(Bp (Gy x0.fO.fQ) (by decide)), ⟨(Bp (S8 x0.fIn) (by decide)), trivial⟩⟩⟩⟩⟩⟩⟩⟩⟩) ?_
   have e15 : Lt x0 = (⟨x0.fClient, x0.fBorn, x0.fClean, x0.fConn, x0.fGen, ⟨x0.fO.fLast, x0.fO.fFl, x0.fO.fQ⟩, x0.fIn⟩ : Cs) := by
    clear s0 s2 s4 s8 s10 s11 s14
    unfold Lt
    (repeat' split) <;> first | rfl | (exfalso; simp_all []; done) | (simp_all []; done)
   rw [e15]
   first | done | rfl
  ·refine C1 (nT h13) ?_
   refine Af (o' := 3) rfl ?_
   refine A3 (cs' := [.sc (.string x0.fClient), .sc (.int .i64 x0.fBorn), .sc (.bool x0.fClean), .sc (.int .i64 (-1)), .sc (.int .i64 x0.fGen), .sc (.int .i64 x0.fO.fLast), x5, x6, x7]) s11 (.here) (Ak rfl) rfl (A7 rfl) rfl fun H s16 => ?_
   refine Af (o' := 4) rfl ?_
   refine A3 (cs' := [.sc (.string x0.fClient), .sc (.int .i64 x0.fBorn), .sc (.bool x0.fClean), .sc (.int .i64 (-1)), .sc (.int .i64 0), .sc (.int .i64 x0.fO.fLast), x5, x6, x7]) s16 (.here) (Ak rfl) rfl (A7 rfl) rfl fun H s17 => ?_
   refine Aj s17 (.here) rfl ?_
   refine A3 (cs' := [.sc (.string x0.fClient), .sc (.int .i64 x0.fBorn), .sc (.bool x0.fClean), .sc (.int .i64 (-1)), .sc (.int .i64 0), .sc (.int .i64 x0.fO.fLast), x5, x6, x7]) s17 Fa (Ad (Aa rfl (Aa rfl (Aa rfl (Aa rfl (Aa rfl (Aa rfl (Aa lx5 (Aa lx6 (Aa lx7 rfl)))))))))) rfl (A7 rfl) rfl fun H s18 => ?_
   refine Aj s18 (.here) rfl ?_
   refine Dr (Nq s18 ⟨_, rfl, rfl⟩ (.sc (.sc (.sc (.sc (.sc (.sc (.own Fa (.own Cz (.own Ci .nil))))))))) ⟨trivial, ⟨trivial, ⟨trivial, ⟨trivial, ⟨trivial, ⟨trivial, ⟨(Bp (D5 x0.fO.fFl) (by decide)), ⟨(Bp (Gy x0.fO.fQ) (by decide)), ⟨(Bp (S8 x0.fIn) (by decide)), trivial⟩⟩⟩⟩⟩⟩⟩⟩⟩) ?_
   have e19 : Lt x0 = (⟨x0.fClient, x0.fBorn, x0.fClean, (-1), 0, ⟨x0.fO.fLast, x0.fO.fFl, x0.fO.fQ⟩, x0.fIn⟩ : Cs) := by
    clear s0 s2 s4 s8 s10 s11 s16 s17 s18
    unfold Lt
    (repeat' split) <;> first | rfl | (exfalso; simp_all []; done) | (simp_all []; done)
   rw [e19]
   first | done | rfl
 ·refine B0 h12 ?_
  refine B0 h12 ?_
  refine B0 h12 ?_
  refine C4 h12 ?_
  refine F3 ?_
  refine B3 rfl ?_
  refine Aj s11 (.here) rfl ?_
  refine A3 (cs' := [.sc (.string x0.fClient), .sc (.int .i64 x0.fBorn), .sc (.bool x0.fClean), .sc (.int .i64 x0.fConn), .sc (.int .i64 x0.fGen), .sc (.int .i64 x0.fO.fLast), x5, x6, x7]) s11 Fa (Ad (Aa rfl (Aa rfl (Aa rfl (Aa rfl (Aa rfl (Aa rfl (Aa lx5 (Aa lx6 (Aa lx7 rfl)))))))))) rfl (A7 rfl) rfl fun H s20 => ?_
  refine Aj s20 (.here) rfl ?_
  refine Dr (Nq s20 ⟨_, rfl, rfl⟩ (.sc (.sc (.sc (.sc (.sc (.sc (.own Fa (.own Cz (.own Ci .nil))))))))) ⟨trivial, ⟨trivial, ⟨trivial, ⟨trivial, ⟨trivial, ⟨trivial, ⟨(Bp (D5 x0.fO.fFl) (by decide)), ⟨(Bp (Gy x0.fO.fQ) (by decide)), ⟨(Bp (S8 x0.fIn) (by decide)), trivial⟩⟩⟩⟩⟩⟩⟩⟩⟩) ?_
  have e21 : Lt x0 = (⟨x0.fClient, x0.fBorn, x0.fClean, x0.fConn, x0.fGen, ⟨x0.fO.fLast, x0.fO.fFl, x0.fO.fQ⟩, x0.fIn⟩ : Cs) := by
   clear s0 s2 s4 s8 s10 s11 s20
   unfold Lt
   (repeat' split) <;> first | rfl | (exfalso; simp_all []; done) | (simp_all []; done)
  rw [e21]
  first | done | rfl
end
section
open Go
def zS : List AV := [.sc (.string ⟨#[]⟩), .sc (.int .i64 0), .sc (.bool false), .sc (.int .i64 0), .sc (.int .i64 0), .sc (.int .i64 0), .nl, .nl, .nl]
def AfR : Cs := ⟨⟨#[]⟩, 0, false, 0, 0, ⟨0, [], []⟩, []⟩
def Rf (c : ByteArray) (b : Int) (cl : Bool) (cn g : Int) : Cs := ⟨c, b, cl, cn, g, ⟨0, [], []⟩, []⟩
def Sv (c : ByteArray) (b : Int) (cl : Bool) (cn g : Int) : Cs := if Jj (Rf c b cl cn g) then Rf c b cl cn g else AfR
def Hk (c : ByteArray) (b : Int) (cl : Bool) (cn g : Int) : List AV := [.sc (.string c), .sc (.int .i64 b), .sc (.bool cl), .sc (.int .i64 cn), .sc (.int .i64 g), .sc (.int .i64 0), .nl, .nl, .nl]
theorem W0 (H : Ac) (c : ByteArray) (b : Int) (cl : Bool) (cn g : Int) : Bc At E0.tp 117 H (.agg (Hk c b cl cn g)) = some (.agg (A2 (Rf c b cl cn g))) := by
 obtain ⟨i, hi, hc⟩ := Uu
 rw [Bc, D4, hi, Option.bind_some, hc]
 rfl
theorem Wz {n g : Nat} {c : ByteArray} {b : Int} {cl : Bool} {cn gn : Int} {ok : Bool} (hg : F4 g = false) (tO : Di E0 n 4 g [.agg (A2 (Rf c b cl cn gn))] = some (.sc (.bool ok))) :
  (Ie zS [] fun t10 H => (Ev zS [(0, 1, .sc (.string c)), (1, 1, .sc (.int .i64 b)), (2, 1, .sc (.bool cl)), (3, 1, .sc (.int .i64 cn)), (4, 1, .sc (.int .i64 gn))]).bind fun ct17 => Ie zS H fun t11 H => Dt 9 t11 (.agg ct17) H fun H => C2 true 9 t11 H fun t18 => (PR n AV).call 4 (.fn g [] []) [t18] H fun t19 H => pUn .not t19 fun t20 => Ih t20
   ((Ev zS []).bind fun ct21 => Dt 9 t10 (.agg ct21) H fun H => C2 true 9 t10 H fun r0 => Bc At E0.tp 117 H r0)
   (C2 true 9 t11 H fun t22 => Dt 9 t10 t22 H fun H => C2 true 9 t10 H fun r0 => Bc At E0.tp 117 H r0)) =
  some (.agg (A2 (if ok then Rf c b cl cn gn else AfR))) := by
 have hf : Ev zS [(0, 1, .sc (.string c)), (1, 1, .sc (.int .i64 b)), (2, 1, .sc (.bool cl)), (3, 1, .sc (.int .i64 cn)), (4, 1, .sc (.int .i64 gn))] = some (Hk c b cl cn gn) := rfl
 simp only [Ie, hf, Option.bind_some, List.nil_append, List.length_nil]
 rw [show ([⟨zS, true, true⟩] : Ac).length = 1 from rfl]
 have hc : Cx (.agg (Hk c b cl cn gn)) = some (Hk c b cl cn gn) := rfl
 rw [En 9 1 0 _ ⟨zS, true, true⟩ (Hk c b cl cn gn) _ _ rfl hc rfl (A7 rfl) rfl]
 refine F0 (ds := Hk c b cl cn gn) (cs := Hk c b cl cn gn) rfl (A7 rfl) rfl ?_
 refine F5 hg (vs := [.agg (A2 (Rf c b cl cn gn))]) rfl tO ?_
 refine Ii ?_
 cases ok
 ·refine Fo rfl ?_
  have hf2 : Ev zS [] = some zS := rfl
  rw [hf2, Option.bind_some]
  rw [En 9 0 0 _ ⟨zS, true, true⟩ zS _ _ rfl rfl rfl (A7 rfl) rfl]
  refine F0 (ds := zS) (cs := zS) rfl (A7 rfl) rfl ?_
  exact W0 _ ⟨#[]⟩ 0 false 0 0
 ·refine Gb rfl ?_
  refine F0 (ds := Hk c b cl cn gn) (cs := Hk c b cl cn gn) rfl (A7 rfl) rfl ?_
  rw [En 9 0 0 _ ⟨zS, true, true⟩ (Hk c b cl cn gn) _ _ rfl hc rfl (A7 rfl) rfl]
  refine F0 (ds := Hk c b cl cn gn) (cs := Hk c b cl cn gn) rfl (A7 rfl) rfl ?_
  exact W0 _ c b cl cn gn
theorem Tk (n : Nat) (hn : 1048576 < n) (x0 : ByteArray) (x1 : Int) (x2 : Bool) (x3 x4 : Int) (k0 : Jo x0) (k1 : C3 x1) (k2 : True) (k3 : C3 x3) (k4 : C3 x4) (b0 : x0.size ≤ 1048576) : Di E0 (n + 12) 117 104 [.sc (.string x0), .sc (.int .i64 x1), .sc (.bool x2), .sc (.int .i64 x3), .sc (.int .i64 x4)] = some (.agg (A2 (Sv x0 x1 x2 x3 x4))) := by
 rw [Bu, AeG, f104]
 simp only [Cj, A4, A6, Be, Ew, Aw]
 exact Wz rfl (Qb n hn _ (Rf x0 x1 x2 x3 x4) b0 (Nat.zero_le _) (Nat.zero_le _))
end
end Go.Proofs.Ytjiahcekpohehaa.Abs
set_option maxHeartbeats 3200000
namespace Go.Proofs.Ytjiahcekpohehaa.Abs
section
open Go
section
variable {β : Type} {n : Nat} {H : Ac} {L L' L1 L2 : List Ck} {G : Option β → Prop} {KH : KO β}
theorem Aeu {ty : Nat} {cty : List Nat} {x y : AV} {l q : List Int} (hs : Sep H L) (hty : ∃ i j, At ty = some i ∧ At i.elem = some j ∧ j.size = 1 ∧ j.cty = cty) (hx : Pk L (.own x ty (Dn l)) L1) (hy : Src H L1 1 cty y q.length (q.map fun z => AV.sc (.int .i64 z)) L2) (hok : Eh (Gx At E0.tp 5) (List.replicate q.length cty).flatten (q.map fun z => AV.sc (.int .i64 z))) (hb : (l.length + q.length) * 8 ≤ 140737488355328)
  (h : ∀ x' H', Aq x' = true → Sep H' (.own x' ty (Dn (l ++ q)) :: L2) → Gd G (KH x' H')) : Gd G (Hh 1 8 x y H fun x H => KH x H) := by
 refine W9 hs hty hx hy hok hb fun x' H' lx hs' => h x' H' lx ?_
 have e : Dn (l ++ q) = .ro (l.length + q.length) ((l.map fun z => AV.sc (.int .i64 z)) ++ (q.map fun z => AV.sc (.int .i64 z))) := by simp [Dn]
 rw [e]
 exact hs'
end
def SessB (b : Nat) (s : Cs) : Prop := (Jo s.fClient ∧ C3 s.fBorn ∧ C3 s.fConn ∧ C3 s.fGen ∧ OutB b s.fO ∧ ∀ z ∈ s.fIn, C3 z) ∧ s.fClient.size + (Fi s.fO + s.fIn.length) ≤ b
theorem Hb {b : Nat} {s : Cs} (h : SessB b s) : s.fIn.length ≤ b ∧ Fi s.fO ≤ b ∧ s.fClient.size ≤ b := by
 have h3 := h.2
 omega
theorem SessB.ok {b : Nat} {s : Cs} (h : SessB b s) (hb : b ≤ 1048576) : Zm s := by
 have h1 := Hb h
 obtain ⟨⟨a1, a2, a3, a4, a5, a6⟩, _⟩ := h
 exact ⟨a1, a2, trivial, a3, a4, a5.ok hb, by omega, a6⟩
theorem SessB.wt {b : Nat} {s : Cs} (h : SessB b s) : I9 s ≤ b := by
 have h3 := h.2
 unfold I9
 omega
theorem SessB.mono {a b : Nat} {s : Cs} (h : SessB a s) (hab : a ≤ b) : SessB b s := ⟨⟨h.1.1, h.1.2.1, h.1.2.2.1, h.1.2.2.2.1, h.1.2.2.2.2.1.mono hab, h.1.2.2.2.2.2⟩, Nat.le_trans h.2 hab⟩
theorem Gw {b k m : Nat} {c : ByteArray} {bo : Int} {cl : Bool} {cn g : Int} {o : B5} {i : List Int} (h1 : Jo c) (h2 : C3 bo) (h3 : C3 cn) (h4 : C3 g) (h5 : OutB k o) (h6 : i.length ≤ m ∧ ∀ z ∈ i, C3 z) (h7 : c.size + (k + m) ≤ b) : SessB b ⟨c, bo, cl, cn, g, o, i⟩ := by
 have := h5.wt
 exact ⟨⟨h1, h2, h3, h4, h5.mono (by omega), h6.2⟩, by show c.size + (Fi o + i.length) ≤ b; omega⟩
theorem AhY {b : Nat} {c : ByteArray} {bo : Int} {cl : Bool} {cn g : Int} (hc : c.size ≤ b) (hb : b ≤ 1048576) (h2 : C3 bo) (h3 : C3 cn) (h4 : C3 g) : SessB b (Sv c bo cl cn g) := by
 unfold Sv
 have h0 : OutB 0 (⟨0, [], []⟩ : B5) := E1 (by constructor <;> decide) (fun z hz => by cases hz) (fun z hz => by cases hz) (Nat.le_refl 0)
 split
 ·exact Gw (k := 0) (m := 0) (by unfold Jo; omega) h2 h3 h4 h0 ⟨Nat.le_refl 0, fun z hz => by cases hz⟩ (by omega)
 ·exact Gw (k := 0) (m := 0) (by unfold Jo; decide) (by constructor <;> decide) (by constructor <;> decide) (by constructor <;> decide) h0 ⟨Nat.le_refl 0, fun z hz => by cases hz⟩ (by show 0 + 0 ≤ b; omega)
theorem Aet {b : Nat} {s : Cs} (h : SessB b s) : SessB b (Lt s) := by
 unfold Lt
 split
 ·exact ⟨⟨h.1.1, h.1.2.1, (by decide : (-9223372036854775808 : Int) ≤ -1 ∧ (-1 : Int) ≤ 9223372036854775807), (by decide : (-9223372036854775808 : Int) ≤ 0 ∧ (0 : Int) ≤ 9223372036854775807), h.1.2.2.2.2⟩, h.2⟩
 ·exact h
theorem Ac5 (n : Nat) (hn : 1048576 < n) (c : ByteArray) (bo : Int) (cl : Bool) (cn g : Int) (hc : c.size ≤ 3) (h2 : C3 bo) (h3 : C3 cn) (h4 : C3 g) : ∃ sv, SessB 3 sv ∧ Di E0 (n + 12) 117 104 [.sc (.string c), .sc (.int .i64 bo), .sc (.bool cl), .sc (.int .i64 cn), .sc (.int .i64 g)] = some (.agg (A2 sv)) :=
 ⟨_, AhY hc (by decide) h2 h3 h4, Tk n hn c bo cl cn g (by unfold Jo; omega) h2 trivial h3 h4 (by omega)⟩
theorem Aht (n : Nat) (hn : 1048576 < n) (s : Cs) (h : SessB 3 s) : ∃ sv, SessB 3 sv ∧ Di E0 (n + 12) 117 105 [.agg (A2 s)] = some (.agg (A2 sv)) :=
 ⟨_, Aet h, V3 n hn s (h.ok (by decide)) (Nat.le_trans h.wt (by decide))⟩
theorem Sz (n : Nat) (hn : 1048576 < n) (code : ByteArray) (hcode : code.size ≤ 1048576) (c i : Nat) (h : Int)   {β : Type} {G : Option β → Prop} {KH : KO β} {H : Ac} {L : List Ck} (s0 : Sep H (Cr c code i h :: L)) (hk : ∀ (r0 : List Int) (r0x : AV) (i' : Nat) (h' : Int) (H' : Ac), (Aq r0x = true) → (r0.length ≤ 5 ∧ (∀ y ∈ r0, C3 y)) → Sep H' (.own r0x 53 (Dn r0) :: Cr c code i' h' :: L) → Gd G (KH (r0x) H')) : Gd G (Dc E0 (n + 5) β 107 [.ptr c 0] H fun x H => KH x H) := by
 rw [Aed, f107]
 try simp only [Cj]
 have lp1 : ∀ (j m : Nat) (z : Int) (a1 : List Int) (a1x : AV) (i : Nat) (h : Int) (H : Ac), j < m → 0 ≤ z ∧ z + ((j : Nat) : Int) = max ((6 : Int)) 0 → Aq a1x = true → (a1.length + j ≤ 5 ∧ (∀ y ∈ a1, C3 y)) → Sep H (.own a1x 53 (Dn a1) :: Cr c code i h :: L) → Gd G (Kc (PR ((n + 4)) β) ((n + 4)) (fun x H => KH x H) m (.ptr c 0) (a1x) (.sc (.int .i64 z)) H) := by
  clear s0
  intro j
  induction j with
  | zero =>
   intro m0 z a1 a1x i h H hm hz la1x hinv s0
   obtain ⟨m, rfl⟩ : ∃ m, m0 = m + 1 := ⟨m0 - 1, by omega⟩
   obtain ⟨hv1, hv2⟩ := hinv
   have hinv := And.intro hv1 hv2
   rw [Kc]
   try simp only [Bm, A9, Aw, Bx, Ch, Ca, Be, Cy]
   refine Hw ?_
   refine B0 (decide_eq_false (by omega)) ?_
   refine B0 (decide_eq_false (by omega)) ?_
   refine B0 (decide_eq_false (by omega)) ?_
   refine C4 (decide_eq_false (by omega)) ?_
   refine B3 rfl ?_
   have e2 : a1.length ≤ 5 ∧ (∀ y ∈ a1, C3 y) := by
    first | assumption | exact ⟨by simp, by simp⟩ | exact ⟨by omega, by assumption⟩
   exact hk a1 a1x i h _ la1x e2 (s0.sel (.cons (.here) (.cons (.here) .rest)))
  | succ j ih =>
   intro m0 z a1 a1x i h H hm hz la1x hinv s0
   obtain ⟨m, rfl⟩ : ∃ m, m0 = m + 1 := ⟨m0 - 1, by omega⟩
   obtain ⟨hv1, hv2⟩ := hinv
   have hinv := And.intro hv1 hv2
   rw [Kc]
   try simp only [Bm, A9, Aw, Bx, Ch, Ca, Be, Cy]
   refine Hw ?_
   refine Ag (decide_eq_true (by omega)) ?_
   refine Ag (decide_eq_true (by omega)) ?_
   refine Ic s0 (.here) ?_
   refine Ag (decide_eq_true (by omega)) ?_
   refine Hw ?_
   refine D9 (decide_eq_true (by omega)) ?_
   refine Ai ((decide (((a1.length : Nat) : Int) < 4))) (fun h3 => ?_) (fun h3 => ?_)
   ·refine C1 h3 ?_
    refine Qj hcode (by omega) s0 A8 fun b4 iq5 hq5 H sq5 => ?_
    refine Ai (b4) (fun h6 => ?_) (fun h6 => ?_)
    ·refine C1 h6 ?_
     refine Bk (cs := [.sc (.int .i64 z)]) rfl ?_
     refine Bl sq5 fun i7 H s8 => ?_
     refine Vr s8 Ci (.here) ⟨_, _, rfl, rfl, rfl, rfl⟩ rfl (by first | omega | (simp only [List.length_map]; omega)) fun x9 H lx9 s10 => ?_
     refine Eo (by omega) (by omega) ?_
     have e11 : (a1 ++ [z]).length + j ≤ 5 ∧ (∀ y ∈ (a1 ++ [z]), C3 y) := by
      refine ⟨by first | omega | (simp only [List.length_append, List.length_singleton, List.length_nil]; omega), ?_⟩; intro y hy; first | (cases hy; done) | exact hinv.2 y hy | (rcases List.mem_append.1 hy with hy | hy; exact hinv.2 y hy; rw [List.mem_singleton.1 hy]; constructor <;> omega)
     exact ih m _ (a1 ++ [z]) x9 iq5 hq5 _ (by omega) (by omega) lx9 e11 (s10.sel (.cons (.here) (.cons (.here) .rest)))
    ·refine B3 h6 ?_
     refine Eo (by omega) (by omega) ?_
     have e12 : a1.length + j ≤ 5 ∧ (∀ y ∈ a1, C3 y) := by
      refine ⟨by first | omega | (simp only [List.length_append, List.length_singleton, List.length_nil]; omega), ?_⟩; intro y hy; first | (cases hy; done) | exact hinv.2 y hy | (rcases List.mem_append.1 hy with hy | hy; exact hinv.2 y hy; rw [List.mem_singleton.1 hy]; constructor <;> omega)
     exact ih m _ a1 a1x iq5 hq5 _ (by omega) (by omega) la1x e12 (sq5.sel (.cons A8 (.cons (.here) .rest)))
   ·refine B3 h3 ?_
    have e13 : a1.length ≤ 5 ∧ (∀ y ∈ a1, C3 y) := by
     first | assumption | exact ⟨by simp, by simp⟩ | exact ⟨by omega, by assumption⟩
    exact hk a1 a1x i h _ la1x e13 (s0.sel (.cons (.here) (.cons (.here) .rest)))
 have s14 := s0.nl (ty := 53) ⟨_, _, rfl, rfl⟩
 have e15 : ([] : List Int).length + (max ((6 : Int)) 0 - 1).toNat ≤ 5 ∧ (∀ y ∈ ([] : List Int), C3 y) := by
  refine ⟨by first | omega | (simp only [List.length_append, List.length_singleton, List.length_nil]; omega), ?_⟩; intro y hy; first | (cases hy; done) | exact hinv.2 y hy | (rcases List.mem_append.1 hy with hy | hy; exact hinv.2 y hy; rw [List.mem_singleton.1 hy]; constructor <;> omega)
 exact lp1 (max ((6 : Int)) 0 - 1).toNat _ _ ([] : List Int) .nl i h _ (by omega) (by omega) rfl e15 (s14.sel (.cons (.here) (.cons (.here) .rest)))
theorem K4 (n : Nat) (hn : 1048576 < n) (code : ByteArray) (hcode : code.size ≤ 1048576) (c i : Nat) (h : Int) (client : ByteArray) (hc0 : client.size ≤ 3) {β : Type} {r : Option β} {KH : KO β} {H : Ac} {L : List Ck} (s0 : Sep H (Cr c code i h :: L)) (hk : ∀ (r0 : Cs) (r0x6 : AV) (r0x7 : AV) (r0x8 : AV) (i' : Nat) (h' : Int) (H' : Ac), (Aq r0x6 = true) → (Aq r0x7 = true) → (Aq r0x8 = true) → (SessB 118 r0) → Sep H' (.own r0x6 113 (Al Az r0.fO.fFl) :: .own r0x7 79 (Al Au r0.fO.fQ) :: .own r0x8 53 (Dn r0.fIn) :: Cr c code i' h' :: L) → Gd (· = r) (KH (.agg [.sc (.string r0.fClient), .sc (.int .i64 r0.fBorn), .sc (.bool r0.fClean), .sc (.int .i64 r0.fConn), .sc (.int .i64 r0.fGen), .sc (.int .i64 r0.fO.fLast), r0x6, r0x7, r0x8]) H')) : Gd (· = r) (Dc E0 (n + 18) β 63 [.ptr c 0, .sc (.string client)] H fun x H => KH x H) := by
 rw [Ahm, f63]
 try simp only [Cj, Bi, A4, A6, A9, Aw]
 refine C8 s0 fun i1 H s2 => ?_
 refine D7 (m := 5) hcode (by omega) s2 A8 fun z3 iq4 hq4 H hz3 sq4 => ?_
 replace hz3 : 0 ≤ z3 ∧ z3 < 5 := by omega
 refine Qj hcode (by omega) sq4 (.here) fun b5 iq6 hq6 H sq6 => ?_
 refine D7 (m := 4) hcode (by omega) sq6 (.here) fun z7 iq8 hq8 H hz7 sq8 => ?_
 replace hz7 : 0 ≤ z7 ∧ z7 < 4 := by omega
 refine D7 (m := 4) hcode (by omega) sq8 (.here) fun z9 iq10 hq10 H hz9 sq10 => ?_
 replace hz9 : 0 ≤ z9 ∧ z9 < 4 := by omega
 refine Eo (by omega) (by omega) ?_
 obtain ⟨v11, hv11, ev11⟩ := Ac5 (n + 5) (by omega) client z3 b5 z7 (1 + z9) (by omega) (by simp only [C3]; omega) (by simp only [C3]; omega) (by simp only [C3]; omega)
 have khv11 := hv11
 obtain ⟨⟨hv111, hv112, hv113, hv114, hv115, hv116⟩, hv117⟩ := khv11
 refine E9 sq10 rfl (.cons .sc (.cons .sc (.cons .sc (.cons .sc (.cons .sc .nil))))) (ev11) ⟨_, rfl, rfl⟩ (Kl _) ?_
 rintro _ _ H ⟨x12, x13, x14, lx12, lx13, lx14, rfl, rfl⟩ s15
 simp only [List.nil_append, List.cons_append] at s15
 refine C8 s15 fun i16 H s17 => ?_
 refine A3 (cs' := [.sc (.string v11.fClient), .sc (.int .i64 v11.fBorn), .sc (.bool v11.fClean), .sc (.int .i64 v11.fConn), .sc (.int .i64 v11.fGen), .sc (.int .i64 v11.fO.fLast), x12, x13, x14]) s17 (.here) (Ad (Aa rfl (Aa rfl (Aa rfl (Aa rfl (Aa rfl (Aa rfl (Aa lx12 (Aa lx13 (Aa lx14 rfl)))))))))) rfl (A7 rfl) rfl fun H s18 => ?_
 refine Qj hcode (by omega) s18 Fa fun b19 iq20 hq20 H sq20 => ?_
 refine F3 ?_
 refine Ai (b19) (fun h21 => ?_) (fun h21 => ?_)
 ·refine C1 h21 ?_
  refine Aj sq20 A8 rfl ?_
  obtain ⟨v22, hv22, ev22⟩ := Aht (n + 5) (by omega) v11 hv11
  have khv22 := hv22
  obtain ⟨⟨hv221, hv222, hv223, hv224, hv225, hv226⟩, hv227⟩ := khv22
  refine E9 sq20 rfl (.agg (.cons .sc (.cons .sc (.cons .sc (.cons .sc (.cons .sc (.cons .sc (.cons (.own (by decide) Fa) (.cons (.own (by decide) Cz) (.cons (.own (by decide) Ci) .nil))))))))) .nil) (ev22) ⟨_, rfl, rfl⟩ (Kl _) ?_
  rintro _ _ H ⟨x23, x24, x25, lx23, lx24, lx25, rfl, rfl⟩ s26
  simp only [List.nil_append, List.cons_append] at s26
  refine A3 (cs' := [.sc (.string v22.fClient), .sc (.int .i64 v22.fBorn), .sc (.bool v22.fClean), .sc (.int .i64 v22.fConn), .sc (.int .i64 v22.fGen), .sc (.int .i64 v22.fO.fLast), x23, x24, x25]) s26 Fa (Ad (Aa rfl (Aa rfl (Aa rfl (Aa rfl (Aa rfl (Aa rfl (Aa lx23 (Aa lx24 (Aa lx25 rfl)))))))))) rfl (A7 rfl) rfl fun H s27 => ?_
  refine Gc rfl rfl ?_
  refine Sx _ (by omega) code hcode c iq20 hq20   (s27.pick Fa) fun r28 r28x1 r28x2 iq29 hq29 H lr28x1 lr28x2 hr28 sq29 => ?_
  have kr28 := hr28
  obtain ⟨⟨oar28, obr28, ocr28⟩, wr28⟩ := kr28
  have gr28 := Mv hr28
  refine Af (o' := 5) rfl ?_
  refine A3 (cs' := [.sc (.string v22.fClient), .sc (.int .i64 v22.fBorn), .sc (.bool v22.fClean), .sc (.int .i64 v22.fConn), .sc (.int .i64 v22.fGen), .sc (.int .i64 r28.fLast), r28x1, r28x2, x25]) sq29 Cz (Ad (Aa rfl (Aa lr28x1 (Aa lr28x2 rfl)))) rfl (A7 rfl) rfl fun H s30 => ?_
  refine Gc rfl rfl ?_
  refine Sz _ (by omega) code hcode c iq29 hq29   (s30.pick Cz) fun r31 r31x iq32 hq32 H lr31x hr31 sq32 => ?_
  obtain ⟨gr31, or31⟩ := hr31
  refine Af (o' := 8) rfl ?_
  refine A3 (cs' := [.sc (.string v22.fClient), .sc (.int .i64 v22.fBorn), .sc (.bool v22.fClean), .sc (.int .i64 v22.fConn), .sc (.int .i64 v22.fGen), .sc (.int .i64 r28.fLast), r28x1, r28x2, r31x]) sq32 Ci (Ak lr31x) rfl (A7 rfl) rfl fun H s33 => ?_
  refine Aj s33 (.here) rfl ?_
  refine A3 (cs' := [.sc (.string v22.fClient), .sc (.int .i64 v22.fBorn), .sc (.bool v22.fClean), .sc (.int .i64 v22.fConn), .sc (.int .i64 v22.fGen), .sc (.int .i64 r28.fLast), r28x1, r28x2, r31x]) s33 Mx (Ad (Aa rfl (Aa rfl (Aa rfl (Aa rfl (Aa rfl (Aa rfl (Aa lr28x1 (Aa lr28x2 (Aa lr31x rfl)))))))))) rfl (A7 rfl) rfl fun H s34 => ?_
  refine Aj s34 (.here) rfl ?_
  have e35 : SessB 118 (⟨v22.fClient, v22.fBorn, v22.fClean, v22.fConn, v22.fGen, r28, r31⟩ : Cs) := by
   refine Gw (k := 110) (m := 5) ?_ ?_ ?_ ?_ (by assumption) ⟨by omega, by assumption⟩ (by omega) <;> assumption
  exact hk (⟨v22.fClient, v22.fBorn, v22.fClean, v22.fConn, v22.fGen, r28, r31⟩ : Cs) r28x1 r28x2 r31x iq32 hq32 _ lr28x1 lr28x2 lr31x e35 (s34.sel (.cons Fa (.cons Fa (.cons Ci (.cons Ci zS8)))))
 ·refine B3 h21 ?_
  refine Gc rfl rfl ?_
  refine Sx _ (by omega) code hcode c iq20 hq20   (sq20.pick (.here)) fun r36 r36x1 r36x2 iq37 hq37 H lr36x1 lr36x2 hr36 sq37 => ?_
  have kr36 := hr36
  obtain ⟨⟨oar36, obr36, ocr36⟩, wr36⟩ := kr36
  have gr36 := Mv hr36
  refine Af (o' := 5) rfl ?_
  refine A3 (cs' := [.sc (.string v11.fClient), .sc (.int .i64 v11.fBorn), .sc (.bool v11.fClean), .sc (.int .i64 v11.fConn), .sc (.int .i64 v11.fGen), .sc (.int .i64 r36.fLast), r36x1, r36x2, x14]) sq37 Cz (Ad (Aa rfl (Aa lr36x1 (Aa lr36x2 rfl)))) rfl (A7 rfl) rfl fun H s38 => ?_
  refine Gc rfl rfl ?_
  refine Sz _ (by omega) code hcode c iq37 hq37   (s38.pick Cz) fun r39 r39x iq40 hq40 H lr39x hr39 sq40 => ?_
  obtain ⟨gr39, or39⟩ := hr39
  refine Af (o' := 8) rfl ?_
  refine A3 (cs' := [.sc (.string v11.fClient), .sc (.int .i64 v11.fBorn), .sc (.bool v11.fClean), .sc (.int .i64 v11.fConn), .sc (.int .i64 v11.fGen), .sc (.int .i64 r36.fLast), r36x1, r36x2, r39x]) sq40 Ci (Ak lr39x) rfl (A7 rfl) rfl fun H s41 => ?_
  refine Aj s41 (.here) rfl ?_
  refine A3 (cs' := [.sc (.string v11.fClient), .sc (.int .i64 v11.fBorn), .sc (.bool v11.fClean), .sc (.int .i64 v11.fConn), .sc (.int .i64 v11.fGen), .sc (.int .i64 r36.fLast), r36x1, r36x2, r39x]) s41 Vi (Ad (Aa rfl (Aa rfl (Aa rfl (Aa rfl (Aa rfl (Aa rfl (Aa lr36x1 (Aa lr36x2 (Aa lr39x rfl)))))))))) rfl (A7 rfl) rfl fun H s42 => ?_
  refine Aj s42 (.here) rfl ?_
  have e43 : SessB 118 (⟨v11.fClient, v11.fBorn, v11.fClean, v11.fConn, v11.fGen, r36, r39⟩ : Cs) := by
   refine Gw (k := 110) (m := 5) ?_ ?_ ?_ ?_ (by assumption) ⟨by omega, by assumption⟩ (by omega) <;> assumption
  exact hk (⟨v11.fClient, v11.fBorn, v11.fClean, v11.fConn, v11.fGen, r36, r39⟩ : Cs) r36x1 r36x2 r39x iq40 hq40 _ lr36x1 lr36x2 lr39x e43 (s42.sel (.cons Fa (.cons Fa (.cons Ci (.cons Ci zS5)))))
theorem Aeq (n : Nat) (hn : 1048576 < n) (code : ByteArray) (hcode : code.size ≤ 1048576) (c i : Nat) (h : Int)   {β : Type} {G : Option β → Prop} {KH : KO β} {H : Ac} {L : List Ck} (s0 : Sep H (Cr c code i h :: L)) (hk : ∀ (r0 : ByteArray) (i' : Nat) (h' : Int) (H' : Ac), (r0.size ≤ 3) → Sep H' (Cr c code i' h' :: L) → Gd G (KH (.sc (.string r0)) H')) : Gd G (Dc E0 (n + 5) β 101 [.ptr c 0] H fun x H => KH x H) := by
 rw [Ae4, f101]
 try simp only [Bm, Be]
 refine Bk (cs := [.sc (.string (⟨#[97, 110, 110]⟩)), .sc (.string (⟨#[98, 111, 98]⟩)), .sc (.string (⟨#[99, 105, 100]⟩)), .sc (.string (⟨#[100, 111, 116]⟩)), .sc (.string (⟨#[101, 118, 101]⟩))]) rfl ?_
 refine Bl s0 fun i1 H s2 => ?_
 refine Vq hcode (by omega) (by omega) rfl s2 A8 (.here) fun z3a iq4 hq4 H mz3 sq4 => ?_
 have s5 := (sq4.pick A8).tail
 obtain ⟨z3, rfl, hz3⟩ := Hz (l := [⟨#[97, 110, 110]⟩, ⟨#[98, 111, 98]⟩, ⟨#[99, 105, 100]⟩, ⟨#[100, 111, 116]⟩, ⟨#[101, 118, 101]⟩]) (m := 3) mz3 (by decide)
 have e6 : z3.size ≤ 3 := by
  first | omega | (simp only [Co, Cb]; omega) | (simp; omega)
 exact hk z3 iq4 hq4 _ e6 (s5.sel (.cons (.here) .rest))
theorem AeE (n : Nat) (hn : 1048576 < n) (code : ByteArray) (hcode : code.size ≤ 1048576) (c i : Nat) (h : Int)   {β : Type} {G : Option β → Prop} {KH : KO β} {H : Ac} {L : List Ck} (s0 : Sep H (Cr c code i h :: L)) (hk : ∀ (r0 : List Int) (r0x : AV) (i' : Nat) (h' : Int) (H' : Ac), (Aq r0x = true) → (r0.length ≤ 10 ∧ (∀ y ∈ r0, C3 y)) → Sep H' (.own r0x 53 (Dn r0) :: Cr c code i' h' :: L) → Gd G (KH (r0x) H')) : Gd G (Dc E0 (n + 6) β 103 [.ptr c 0] H fun x H => KH x H) := by
 rw [Afl, f103]
 try simp only [Bm, A9, Aw, Be, Cy]
 refine Gc rfl rfl ?_
 refine Sz _ (by omega) code hcode c i h   (s0.pick (.here)) fun r1 r1x iq2 hq2 H lr1x hr1 sq2 => ?_
 obtain ⟨gr1, or1⟩ := hr1
 refine D7 (m := 8) hcode (by omega) sq2 A8 fun z3 iq4 hq4 H hz3 sq4 => ?_
 replace hz3 : 0 ≤ z3 ∧ z3 < 8 := by omega
 refine Bv ?_
 refine Ai ((decide (z3 = 0))) (fun h5 => ?_) (fun h5 => ?_)
 ·refine C1 h5 ?_
  refine Bk (cs := [.sc (.int .i64 0), .sc (.int .i64 1), .sc (.int .i64 65535), .sc (.int .i64 65536)]) rfl ?_
  refine Bl sq4 fun i6 H s7 => ?_
  refine Dl hcode (by omega) (by omega) rfl s7 A8 (.here) fun z8a iq9 hq9 H mz8 sq9 => ?_
  have s10 := (sq9.pick A8).tail
  obtain ⟨z8, rfl, hz8⟩ := A5 (l := [0, 1, 65535, 65536]) (lo := 0) (hi := 65536) mz8 (by decide)
  refine Bk (cs := [.sc (.int .i64 z8)]) rfl ?_
  refine Bl s10 fun i11 H s12 => ?_
  refine Vr s12 Ci (.here) ⟨_, _, rfl, rfl, rfl, rfl⟩ rfl (by first | omega | (simp only [List.length_map]; omega)) fun x13 H lx13 s14 => ?_
  have e15 : (r1 ++ [z8]).length ≤ 10 ∧ (∀ y ∈ (r1 ++ [z8]), C3 y) := by
   first | exact ⟨by omega, by assumption⟩ | exact ⟨by simp only [List.length_append, List.length_singleton, List.length_cons, List.length_nil]; omega, List.forall_mem_append.2 ⟨by assumption, by intro z hz; simp only [List.mem_cons, List.not_mem_nil, or_false] at hz; first | (subst hz; simp only [C3]; omega) | (rcases hz with rfl | rfl | rfl | rfl | rfl <;> (simp only [C3]; omega))⟩⟩ | exact ⟨by decide, by intro z hz; simp only [List.mem_cons, List.not_mem_nil, or_false] at hz; rcases hz with rfl | rfl | rfl | rfl <;> (simp only [C3]; omega)⟩
  exact hk (r1 ++ [z8]) x13 iq9 hq9 _ lx13 e15 (s14.sel (.cons (.here) (.cons (.here) .rest)))
 ·refine B3 h5 ?_
  refine Bv ?_
  refine Ai ((decide (z3 = 1))) (fun h16 => ?_) (fun h16 => ?_)
  ·refine C1 h16 ?_
   refine Bk (cs := [.sc (.int .i64 1), .sc (.int .i64 2), .sc (.int .i64 3), .sc (.int .i64 4)]) rfl ?_
   refine Bl sq4 fun i17 H s18 => ?_
   have s19 := Sep.closeR (ty := 53) (sz := 1) (m := 4) (pre := []) (cells := [.sc (.int .i64 1), .sc (.int .i64 2), .sc (.int .i64 3), .sc (.int .i64 4)]) (post := []) ⟨_, _, rfl, rfl, rfl, rfl⟩ (by simpa using s18.pick (.here)) rfl rfl
   have e20 : ([1, 2, 3, 4] : List Int).length ≤ 10 ∧ (∀ y ∈ ([1, 2, 3, 4] : List Int), C3 y) := by
    first | exact ⟨by omega, by assumption⟩ | exact ⟨by simp only [List.length_append, List.length_singleton, List.length_cons, List.length_nil]; omega, List.forall_mem_append.2 ⟨by assumption, by intro z hz; simp only [List.mem_cons, List.not_mem_nil, or_false] at hz; first | (subst hz; simp only [C3]; omega) | (rcases hz with rfl | rfl | rfl | rfl | rfl <;> (simp only [C3]; omega))⟩⟩ | exact ⟨by decide, by intro z hz; simp only [List.mem_cons, List.not_mem_nil, or_false] at hz; rcases hz with rfl | rfl | rfl | rfl <;> (simp only [C3]; omega)⟩
   exact hk ([1, 2, 3, 4] : List Int) (.sl i17 0 4 1) iq4 hq4 _ rfl e20 (s19.sel (.cons (.here) (.cons (.here) (.skip .rest))))
  ·refine B3 h16 ?_
   refine Bv ?_
   refine Ai ((decide (z3 = 2))) (fun h21 => ?_) (fun h21 => ?_)
   ·refine C1 h21 ?_
    refine Bk (cs := [.sc (.int .i64 7), .sc (.int .i64 8), .sc (.int .i64 9), .sc (.int .i64 10), .sc (.int .i64 11)]) rfl ?_
    refine Bl sq4 fun i22 H s23 => ?_
    refine Aeu (cty := [3]) (q := [7, 8, 9, 10, 11]) s23 ⟨_, _, rfl, rfl, rfl, rfl⟩ Ci (Pd (.here) rfl rfl (.sc (.sc (.sc (.sc (.sc .nil))))) ⟨trivial, ⟨trivial, ⟨trivial, ⟨trivial, ⟨trivial, trivial⟩⟩⟩⟩⟩) ⟨trivial, ⟨trivial, ⟨trivial, ⟨trivial, ⟨trivial, trivial⟩⟩⟩⟩⟩ (by simp only [List.length_cons, List.length_nil]; omega) fun x24 H lx24 s25 => ?_
    have e26 : (r1 ++ [7, 8, 9, 10, 11]).length ≤ 10 ∧ (∀ y ∈ (r1 ++ [7, 8, 9, 10, 11]), C3 y) := by
     first | exact ⟨by omega, by assumption⟩ | exact ⟨by simp only [List.length_append, List.length_singleton, List.length_cons, List.length_nil]; omega, List.forall_mem_append.2 ⟨by assumption, by intro z hz; simp only [List.mem_cons, List.not_mem_nil, or_false] at hz; first | (subst hz; simp only [C3]; omega) | (rcases hz with rfl | rfl | rfl | rfl | rfl <;> (simp only [C3]; omega))⟩⟩ | exact ⟨by decide, by intro z hz; simp only [List.mem_cons, List.not_mem_nil, or_false] at hz; rcases hz with rfl | rfl | rfl | rfl <;> (simp only [C3]; omega)⟩
    exact hk (r1 ++ [7, 8, 9, 10, 11]) x24 iq4 hq4 _ lx24 e26 (s25.sel (.cons (.here) (.cons (.here) .rest)))
   ·refine B3 h21 ?_
    have e27 : r1.length ≤ 10 ∧ (∀ y ∈ r1, C3 y) := by
     first | exact ⟨by omega, by assumption⟩ | exact ⟨by simp only [List.length_append, List.length_singleton, List.length_cons, List.length_nil]; omega, List.forall_mem_append.2 ⟨by assumption, by intro z hz; simp only [List.mem_cons, List.not_mem_nil, or_false] at hz; first | (subst hz; simp only [C3]; omega) | (rcases hz with rfl | rfl | rfl | rfl | rfl <;> (simp only [C3]; omega))⟩⟩ | exact ⟨by decide, by intro z hz; simp only [List.mem_cons, List.not_mem_nil, or_false] at hz; rcases hz with rfl | rfl | rfl | rfl <;> (simp only [C3]; omega)⟩
    exact hk r1 r1x iq4 hq4 _ lr1x e27 (sq4.sel (.cons A8 (.cons (.here) .rest)))
theorem Aak (n : Nat) (hn : 1048576 < n) (code : ByteArray) (hcode : code.size ≤ 1048576) (c i : Nat) (h : Int)   {β : Type} {r : Option β} {KH : KO β} {H : Ac} {L : List Ck} (s0 : Sep H (Cr c code i h :: L)) (hk : ∀ (r0 : Cs) (r0x6 : AV) (r0x7 : AV) (r0x8 : AV) (i' : Nat) (h' : Int) (H' : Ac), (Aq r0x6 = true) → (Aq r0x7 = true) → (Aq r0x8 = true) → (SessB 700 r0) → Sep H' (.own r0x6 113 (Al Az r0.fO.fFl) :: .own r0x7 79 (Al Au r0.fO.fQ) :: .own r0x8 53 (Dn r0.fIn) :: Cr c code i' h' :: L) → Gd (· = r) (KH (.agg [.sc (.string r0.fClient), .sc (.int .i64 r0.fBorn), .sc (.bool r0.fClean), .sc (.int .i64 r0.fConn), .sc (.int .i64 r0.fGen), .sc (.int .i64 r0.fO.fLast), r0x6, r0x7, r0x8]) H')) : Gd (· = r) (Dc E0 (n + 20) β 62 [.ptr c 0] H fun x H => KH x H) := by
 rw [Ag3, f62]
 try simp only [Cj, Bm, Bi, A4, A6, A9, Ew, Aw, Be]
 refine C8 s0 fun i1 H s2 => ?_
 refine Gc rfl rfl ?_
 refine Aeq _ (by omega) code hcode c i h   (s2.pick A8) fun r3 iq4 hq4 H hr3 sq4 => ?_
 refine Gc rfl rfl ?_
 refine K4 _ (by omega) code hcode c iq4 hq4 r3 (by omega) (sq4.pick (.here)) fun r5 r5x6 r5x7 r5x8 iq6 hq6 H lr5x6 lr5x7 lr5x8 hr5 sq6 => ?_
 have kr5 := hr5
 obtain ⟨⟨oar5, obr5, ocr5, odr5, oer5, ofr5⟩, wr5⟩ := kr5
 have gr5 := Hb hr5
 refine C8 sq6 fun i7 H s8 => ?_
 refine A3 (cs' := [.sc (.string r5.fClient), .sc (.int .i64 r5.fBorn), .sc (.bool r5.fClean), .sc (.int .i64 r5.fConn), .sc (.int .i64 r5.fGen), .sc (.int .i64 r5.fO.fLast), r5x6, r5x7, r5x8]) s8 (.here) (Ad (Aa rfl (Aa rfl (Aa rfl (Aa rfl (Aa rfl (Aa rfl (Aa lr5x6 (Aa lr5x7 (Aa lr5x8 rfl)))))))))) rfl (A7 rfl) rfl fun H s9 => ?_
 refine D7 (m := 18) hcode (by omega) s9 Fa fun z10 iq11 hq11 H hz10 sq11 => ?_
 replace hz10 : 0 ≤ z10 ∧ z10 < 18 := by omega
 refine Bv ?_
 refine Ai ((decide (z10 = 0))) (fun h12 => ?_) (fun h12 => ?_)
 ·refine C1 h12 ?_
  refine Bk (cs := [.sc (.string (⟨#[]⟩)), .sc (.string (⟨#[255]⟩))]) rfl ?_
  refine Bl sq11 fun i13 H s14 => ?_
  refine Vq hcode (by omega) (by omega) rfl s14 A8 (.here) fun z15a iq16 hq16 H mz15 sq16 => ?_
  have s17 := (sq16.pick A8).tail
  obtain ⟨z15, rfl, hz15⟩ := Hz (l := [⟨#[]⟩, ⟨#[255]⟩]) (m := 1) mz15 (by decide)
  refine Af (o' := 0) rfl ?_
  refine A3 (cs' := [.sc (.string z15), .sc (.int .i64 r5.fBorn), .sc (.bool r5.fClean), .sc (.int .i64 r5.fConn), .sc (.int .i64 r5.fGen), .sc (.int .i64 r5.fO.fLast), r5x6, r5x7, r5x8]) s17 A8 (Ak rfl) rfl (A7 rfl) rfl fun H s18 => ?_
  refine Aj s18 (.here) rfl ?_
  refine A3 (cs' := [.sc (.string z15), .sc (.int .i64 r5.fBorn), .sc (.bool r5.fClean), .sc (.int .i64 r5.fConn), .sc (.int .i64 r5.fGen), .sc (.int .i64 r5.fO.fLast), r5x6, r5x7, r5x8]) s18 Lf (Ad (Aa rfl (Aa rfl (Aa rfl (Aa rfl (Aa rfl (Aa rfl (Aa lr5x6 (Aa lr5x7 (Aa lr5x8 rfl)))))))))) rfl (A7 rfl) rfl fun H s19 => ?_
  refine Aj s19 (.here) rfl ?_
  have e20 : SessB 700 (⟨z15, r5.fBorn, r5.fClean, r5.fConn, r5.fGen, r5.fO, r5.fIn⟩ : Cs) := by
   first | exact SessB.mono (by assumption) (by omega) | (refine Gw (k := 400) (m := 118) ?_ ?_ ?_ ?_ ?_ ?_ ?_ <;> first | assumption | (simp only [C3]; omega) | (simp only [Jo]; omega) | exact OutB.mono (by assumption) (by omega) | exact ⟨by omega, by assumption⟩ | omega)
  exact hk (⟨z15, r5.fBorn, r5.fClean, r5.fConn, r5.fGen, r5.fO, r5.fIn⟩ : Cs) r5x6 r5x7 r5x8 iq16 hq16 _ lr5x6 lr5x7 lr5x8 e20 (s19.sel (.cons Cz (.cons Cz (.cons Cz (.cons Ci N8)))))
 ·refine B3 h12 ?_
  refine Bv ?_
  refine Ai ((decide (z10 = 1))) (fun h21 => ?_) (fun h21 => ?_)
  ·refine C1 h21 ?_
   refine Af (o' := 1) rfl ?_
   refine A3 (cs' := [.sc (.string r5.fClient), .sc (.int .i64 (-1)), .sc (.bool r5.fClean), .sc (.int .i64 r5.fConn), .sc (.int .i64 r5.fGen), .sc (.int .i64 r5.fO.fLast), r5x6, r5x7, r5x8]) sq11 A8 (Ak rfl) rfl (A7 rfl) rfl fun H s22 => ?_
   refine Aj s22 (.here) rfl ?_
   refine A3 (cs' := [.sc (.string r5.fClient), .sc (.int .i64 (-1)), .sc (.bool r5.fClean), .sc (.int .i64 r5.fConn), .sc (.int .i64 r5.fGen), .sc (.int .i64 r5.fO.fLast), r5x6, r5x7, r5x8]) s22 Lf (Ad (Aa rfl (Aa rfl (Aa rfl (Aa rfl (Aa rfl (Aa rfl (Aa lr5x6 (Aa lr5x7 (Aa lr5x8 rfl)))))))))) rfl (A7 rfl) rfl fun H s23 => ?_
   refine Aj s23 (.here) rfl ?_
   have e24 : SessB 700 (⟨r5.fClient, (-1), r5.fClean, r5.fConn, r5.fGen, r5.fO, r5.fIn⟩ : Cs) := by
    first | exact SessB.mono (by assumption) (by omega) | (refine Gw (k := 400) (m := 118) ?_ ?_ ?_ ?_ ?_ ?_ ?_ <;> first | assumption | (simp only [C3]; omega) | (simp only [Jo]; omega) | exact OutB.mono (by assumption) (by omega) | exact ⟨by omega, by assumption⟩ | omega)
   exact hk (⟨r5.fClient, (-1), r5.fClean, r5.fConn, r5.fGen, r5.fO, r5.fIn⟩ : Cs) r5x6 r5x7 r5x8 iq11 hq11 _ lr5x6 lr5x7 lr5x8 e24 (s23.sel (.cons Cz (.cons Cz (.cons Cz (.cons Ci N8)))))
  ·refine B3 h21 ?_
   refine Bv ?_
   refine Ai ((decide (z10 = 2))) (fun h25 => ?_) (fun h25 => ?_)
   ·refine C1 h25 ?_
    refine Af (o' := 2) rfl ?_
    refine Ay (c := .sc (.bool r5.fClean)) sq11 A8 rfl ?_
    refine F8 ?_
    refine Af (o' := 2) rfl ?_
    refine A3 (cs' := [.sc (.string r5.fClient), .sc (.int .i64 r5.fBorn), .sc (.bool (!r5.fClean)), .sc (.int .i64 r5.fConn), .sc (.int .i64 r5.fGen), .sc (.int .i64 r5.fO.fLast), r5x6, r5x7, r5x8]) sq11 A8 (Ak rfl) rfl (A7 rfl) rfl fun H s26 => ?_
    refine Aj s26 (.here) rfl ?_
    refine A3 (cs' := [.sc (.string r5.fClient), .sc (.int .i64 r5.fBorn), .sc (.bool (!r5.fClean)), .sc (.int .i64 r5.fConn), .sc (.int .i64 r5.fGen), .sc (.int .i64 r5.fO.fLast), r5x6, r5x7, r5x8]) s26 Lf (Ad (Aa rfl (Aa rfl (Aa rfl (Aa rfl (Aa rfl (Aa rfl (Aa lr5x6 (Aa lr5x7 (Aa lr5x8 rfl)))))))))) rfl (A7 rfl) rfl fun H s27 => ?_
    refine Aj s27 (.here) rfl ?_
    have e28 : SessB 700 (⟨r5.fClient, r5.fBorn, (!r5.fClean), r5.fConn, r5.fGen, r5.fO, r5.fIn⟩ : Cs) := by
     first | exact SessB.mono (by assumption) (by omega) | (refine Gw (k := 400) (m := 118) ?_ ?_ ?_ ?_ ?_ ?_ ?_ <;> first | assumption | (simp only [C3]; omega) | (simp only [Jo]; omega) | exact OutB.mono (by assumption) (by omega) | exact ⟨by omega, by assumption⟩ | omega)
    exact hk (⟨r5.fClient, r5.fBorn, (!r5.fClean), r5.fConn, r5.fGen, r5.fO, r5.fIn⟩ : Cs) r5x6 r5x7 r5x8 iq11 hq11 _ lr5x6 lr5x7 lr5x8 e28 (s27.sel (.cons Cz (.cons Cz (.cons Cz (.cons Ci N8)))))
   ·refine B3 h25 ?_
    refine Bv ?_
    refine Ai ((decide (z10 = 3))) (fun h29 => ?_) (fun h29 => ?_)
    ·refine C1 h29 ?_
     refine Bk (cs := [.sc (.int .i64 (-2)), .sc (.int .i64 (-1)), .sc (.int .i64 4)]) rfl ?_
     refine Bl sq11 fun i30 H s31 => ?_
     refine Dl hcode (by omega) (by omega) rfl s31 A8 (.here) fun z32a iq33 hq33 H mz32 sq33 => ?_
     have s34 := (sq33.pick A8).tail
     obtain ⟨z32, rfl, hz32⟩ := A5 (l := [(-2), (-1), 4]) (lo := -2) (hi := 4) mz32 (by decide)
     refine Af (o' := 3) rfl ?_
     refine A3 (cs' := [.sc (.string r5.fClient), .sc (.int .i64 r5.fBorn), .sc (.bool r5.fClean), .sc (.int .i64 z32), .sc (.int .i64 r5.fGen), .sc (.int .i64 r5.fO.fLast), r5x6, r5x7, r5x8]) s34 A8 (Ak rfl) rfl (A7 rfl) rfl fun H s35 => ?_
     refine Aj s35 (.here) rfl ?_
     refine A3 (cs' := [.sc (.string r5.fClient), .sc (.int .i64 r5.fBorn), .sc (.bool r5.fClean), .sc (.int .i64 z32), .sc (.int .i64 r5.fGen), .sc (.int .i64 r5.fO.fLast), r5x6, r5x7, r5x8]) s35 Lf (Ad (Aa rfl (Aa rfl (Aa rfl (Aa rfl (Aa rfl (Aa rfl (Aa lr5x6 (Aa lr5x7 (Aa lr5x8 rfl)))))))))) rfl (A7 rfl) rfl fun H s36 => ?_
     refine Aj s36 (.here) rfl ?_
     have e37 : SessB 700 (⟨r5.fClient, r5.fBorn, r5.fClean, z32, r5.fGen, r5.fO, r5.fIn⟩ : Cs) := by
      first | exact SessB.mono (by assumption) (by omega) | (refine Gw (k := 400) (m := 118) ?_ ?_ ?_ ?_ ?_ ?_ ?_ <;> first | assumption | (simp only [C3]; omega) | (simp only [Jo]; omega) | exact OutB.mono (by assumption) (by omega) | exact ⟨by omega, by assumption⟩ | omega)
     exact hk (⟨r5.fClient, r5.fBorn, r5.fClean, z32, r5.fGen, r5.fO, r5.fIn⟩ : Cs) r5x6 r5x7 r5x8 iq33 hq33 _ lr5x6 lr5x7 lr5x8 e37 (s36.sel (.cons Cz (.cons Cz (.cons Cz (.cons Ci N8)))))
    ·refine B3 h29 ?_
     refine Bv ?_
     refine Ai ((decide (z10 = 4))) (fun h38 => ?_) (fun h38 => ?_)
     ·refine C1 h38 ?_
      refine Bk (cs := [.sc (.int .i64 (-1)), .sc (.int .i64 0)]) rfl ?_
      refine Bl sq11 fun i39 H s40 => ?_
      refine Dl hcode (by omega) (by omega) rfl s40 A8 (.here) fun z41a iq42 hq42 H mz41 sq42 => ?_
      have s43 := (sq42.pick A8).tail
      obtain ⟨z41, rfl, hz41⟩ := A5 (l := [(-1), 0]) (lo := -1) (hi := 0) mz41 (by decide)
      refine Af (o' := 4) rfl ?_
      refine A3 (cs' := [.sc (.string r5.fClient), .sc (.int .i64 r5.fBorn), .sc (.bool r5.fClean), .sc (.int .i64 r5.fConn), .sc (.int .i64 z41), .sc (.int .i64 r5.fO.fLast), r5x6, r5x7, r5x8]) s43 A8 (Ak rfl) rfl (A7 rfl) rfl fun H s44 => ?_
      refine Aj s44 (.here) rfl ?_
      refine A3 (cs' := [.sc (.string r5.fClient), .sc (.int .i64 r5.fBorn), .sc (.bool r5.fClean), .sc (.int .i64 r5.fConn), .sc (.int .i64 z41), .sc (.int .i64 r5.fO.fLast), r5x6, r5x7, r5x8]) s44 Lf (Ad (Aa rfl (Aa rfl (Aa rfl (Aa rfl (Aa rfl (Aa rfl (Aa lr5x6 (Aa lr5x7 (Aa lr5x8 rfl)))))))))) rfl (A7 rfl) rfl fun H s45 => ?_
      refine Aj s45 (.here) rfl ?_
      have e46 : SessB 700 (⟨r5.fClient, r5.fBorn, r5.fClean, r5.fConn, z41, r5.fO, r5.fIn⟩ : Cs) := by
       first | exact SessB.mono (by assumption) (by omega) | (refine Gw (k := 400) (m := 118) ?_ ?_ ?_ ?_ ?_ ?_ ?_ <;> first | assumption | (simp only [C3]; omega) | (simp only [Jo]; omega) | exact OutB.mono (by assumption) (by omega) | exact ⟨by omega, by assumption⟩ | omega)
      exact hk (⟨r5.fClient, r5.fBorn, r5.fClean, r5.fConn, z41, r5.fO, r5.fIn⟩ : Cs) r5x6 r5x7 r5x8 iq42 hq42 _ lr5x6 lr5x7 lr5x8 e46 (s45.sel (.cons Cz (.cons Cz (.cons Cz (.cons Ci N8)))))
     ·refine B3 h38 ?_
      refine Bv ?_
      refine Ai ((decide (z10 = 5))) (fun h47 => ?_) (fun h47 => ?_)
      ·refine C1 h47 ?_
       refine Gc rfl rfl ?_
       refine Afp _ (by omega) code hcode c iq11 hq11   (sq11.pick (.here)) fun r48 r48x1 r48x2 iq49 hq49 H lr48x1 lr48x2 hr48 sq49 => ?_
       have kr48 := hr48
       obtain ⟨⟨oar48, obr48, ocr48⟩, wr48⟩ := kr48
       have gr48 := Mv hr48
       refine Af (o' := 5) rfl ?_
       refine A3 (cs' := [.sc (.string r5.fClient), .sc (.int .i64 r5.fBorn), .sc (.bool r5.fClean), .sc (.int .i64 r5.fConn), .sc (.int .i64 r5.fGen), .sc (.int .i64 r48.fLast), r48x1, r48x2, r5x8]) sq49 Cz (Ad (Aa rfl (Aa lr48x1 (Aa lr48x2 rfl)))) rfl (A7 rfl) rfl fun H s50 => ?_
       refine Aj s50 (.here) rfl ?_
       refine A3 (cs' := [.sc (.string r5.fClient), .sc (.int .i64 r5.fBorn), .sc (.bool r5.fClean), .sc (.int .i64 r5.fConn), .sc (.int .i64 r5.fGen), .sc (.int .i64 r48.fLast), r48x1, r48x2, r5x8]) s50 zP7 (Ad (Aa rfl (Aa rfl (Aa rfl (Aa rfl (Aa rfl (Aa rfl (Aa lr48x1 (Aa lr48x2 (Aa lr5x8 rfl)))))))))) rfl (A7 rfl) rfl fun H s51 => ?_
       refine Aj s51 (.here) rfl ?_
       have e52 : SessB 700 (⟨r5.fClient, r5.fBorn, r5.fClean, r5.fConn, r5.fGen, r48, r5.fIn⟩ : Cs) := by
        first | exact SessB.mono (by assumption) (by omega) | (refine Gw (k := 400) (m := 118) ?_ ?_ ?_ ?_ ?_ ?_ ?_ <;> first | assumption | (simp only [C3]; omega) | (simp only [Jo]; omega) | exact OutB.mono (by assumption) (by omega) | exact ⟨by omega, by assumption⟩ | omega)
       exact hk (⟨r5.fClient, r5.fBorn, r5.fClean, r5.fConn, r5.fGen, r48, r5.fIn⟩ : Cs) r48x1 r48x2 r5x8 iq49 hq49 _ lr48x1 lr48x2 lr5x8 e52 (s51.sel (.cons Ci (.cons Ci (.cons Lf (.cons Ci zS4)))))
      ·refine B3 h47 ?_
       refine Bv ?_
       refine Ai ((decide (z10 = 6))) (fun h53 => ?_) (fun h53 => ?_)
       ·refine C1 h53 ?_
        refine Gc rfl rfl ?_
        refine AeE _ (by omega) code hcode c iq11 hq11   (sq11.pick (.here)) fun r54 r54x iq55 hq55 H lr54x hr54 sq55 => ?_
        obtain ⟨gr54, or54⟩ := hr54
        refine Af (o' := 8) rfl ?_
        refine A3 (cs' := [.sc (.string r5.fClient), .sc (.int .i64 r5.fBorn), .sc (.bool r5.fClean), .sc (.int .i64 r5.fConn), .sc (.int .i64 r5.fGen), .sc (.int .i64 r5.fO.fLast), r5x6, r5x7, r54x]) sq55 Ci (Ak lr54x) rfl (A7 rfl) rfl fun H s56 => ?_
        refine Aj s56 (.here) rfl ?_
        refine A3 (cs' := [.sc (.string r5.fClient), .sc (.int .i64 r5.fBorn), .sc (.bool r5.fClean), .sc (.int .i64 r5.fConn), .sc (.int .i64 r5.fGen), .sc (.int .i64 r5.fO.fLast), r5x6, r5x7, r54x]) s56 Q0 (Ad (Aa rfl (Aa rfl (Aa rfl (Aa rfl (Aa rfl (Aa rfl (Aa lr5x6 (Aa lr5x7 (Aa lr54x rfl)))))))))) rfl (A7 rfl) rfl fun H s57 => ?_
        refine Aj s57 (.here) rfl ?_
        have e58 : SessB 700 (⟨r5.fClient, r5.fBorn, r5.fClean, r5.fConn, r5.fGen, r5.fO, r54⟩ : Cs) := by
         first | exact SessB.mono (by assumption) (by omega) | (refine Gw (k := 400) (m := 118) ?_ ?_ ?_ ?_ ?_ ?_ ?_ <;> first | assumption | (simp only [C3]; omega) | (simp only [Jo]; omega) | exact OutB.mono (by assumption) (by omega) | exact ⟨by omega, by assumption⟩ | omega)
        exact hk (⟨r5.fClient, r5.fBorn, r5.fClean, r5.fConn, r5.fGen, r5.fO, r54⟩ : Cs) r5x6 r5x7 r54x iq55 hq55 _ lr5x6 lr5x7 lr54x e58 (s57.sel (.cons Fa (.cons Fa (.cons Ci (.cons Ci zS3)))))
       ·refine B3 h53 ?_
        refine Aj sq11 A8 rfl ?_
        refine A3 (cs' := [.sc (.string r5.fClient), .sc (.int .i64 r5.fBorn), .sc (.bool r5.fClean), .sc (.int .i64 r5.fConn), .sc (.int .i64 r5.fGen), .sc (.int .i64 r5.fO.fLast), r5x6, r5x7, r5x8]) sq11 Lf (Ad (Aa rfl (Aa rfl (Aa rfl (Aa rfl (Aa rfl (Aa rfl (Aa lr5x6 (Aa lr5x7 (Aa lr5x8 rfl)))))))))) rfl (A7 rfl) rfl fun H s59 => ?_
        refine Aj s59 (.here) rfl ?_
        have e60 : SessB 700 (r5 : Cs) := by
         first | exact SessB.mono (by assumption) (by omega) | (refine Gw (k := 400) (m := 118) ?_ ?_ ?_ ?_ ?_ ?_ ?_ <;> first | assumption | (simp only [C3]; omega) | (simp only [Jo]; omega) | exact OutB.mono (by assumption) (by omega) | exact ⟨by omega, by assumption⟩ | omega)
        exact hk (r5 : Cs) r5x6 r5x7 r5x8 iq11 hq11 _ lr5x6 lr5x7 lr5x8 e60 (s59.sel (.cons Cz (.cons Cz (.cons Cz (.cons A8 N8)))))
end
section
open Go
variable {β : Type} {n : Nat} {r : Option β}
theorem Tv {d w te g bytes k : Nat} {cty : List Nat} {H X0 : Ac} {x : AV} {cells cs z : List AV} {ids : List Nat} {args vs : List AV} {K : KO β} (hx : OwnSI d H w cty x k cells ids) (hh : F4 g = false) (hv : args.mapM (Ds (H ++ X0) 8) = some vs) (ht : Di E0 n te g vs = some (.agg cs))
  (hte : ∃ i, At te = some i ∧ i.cty = cty) (hok : Eh (Gx At E0.tp d) cty cs) (hfl : cs.all Ix = true) (hw : cs.length = w) (hz : z.length = w) (hb : (k + 1) * bytes ≤ 140737488355328)
  (h : ∀ x' H' ids', OwnSI d H' w cty x' (k + 1) (cells ++ cs) ids' → (∀ i ∈ ids', i ∈ ids ∨ H.length ≤ i) → (∀ i, i < H.length → i ∉ ids → H'[i]? = H[i]?) → H.length ≤ H'.length → K x' H' = r) :
  ((PR n β).call te (.fn g [] []) args (H ++ X0) fun t G => (Ev z [(0, w, t)]).bind fun ct => Fj 1 w ct true G fun y G => Hh w bytes x y G K) = r := by
 obtain ⟨i, hi, rfl⟩ := hte
 rw [El hh hv ht, Fq, hi, Option.getD_some]
 simp only
 have hlen := In (ti := At) (tp := E0.tp) (H ++ X0).length i.cty cs
 have hleaf := Iq (ti := At) (tp := E0.tp) cs (H ++ X0).length i.cty hfl
 rw [Wk hz (by rw [hlen, hw]) hleaf, Option.bind_some]
 have key := V2 (H := H) (X := X0 ++ (Bw At E0.tp (H ++ X0).length i.cty cs).2) (bytes := bytes) (er := (Bw At E0.tp (H ++ X0).length i.cty cs).1) (ec := cs) (eids := List.range' (H ++ X0).length (Bw At E0.tp (H ++ X0).length i.cty cs).2.length) (K := K) (r := r) hx (by rw [hlen, hw]) hleaf (by
   have := Vm (d := d) (H := H ++ X0) hok
   rwa [List.append_assoc] at this) List.nodup_range' (fun j hj => by
   rw [List.mem_range'_1] at hj
   have := hj.1
   simp at this
   omega) hb h
 rw [← List.append_assoc] at key
 exact key
structure StrI (H : Ac) (io i2 i1 : Nat) (s : Am) (x : AV) (k : Nat) (cells : List AV) (ids : List Nat) : Prop where
 ho : H[io]? = some ⟨[.sc (.int .i64 s.fHeld), x], true, true⟩
 hs : OwnSI 6 H 9 Lm x k cells ids
 hz : ∃ z2, H[i2]? = some ⟨z2, true, true⟩ ∧ z2.length = 2
 src : H[i1]? = some ⟨Bs s, true, true⟩
 ne : io ≠ i2
 ne1 : i1 ≠ io
 ne2 : i1 ≠ i2
 o1 : io ∉ ids
 z1 : i2 ∉ ids
 s1 : i1 ∉ ids
theorem StrI.lt {H : Ac} {io i2 i1 : Nat} {s : Am} {x : AV} {k : Nat} {cells : List AV} {ids : List Nat} (h : StrI H io i2 i1 s x k cells ids) : io < H.length ∧ i2 < H.length ∧ i1 < H.length := by
 obtain ⟨z2, hz, _⟩ := h.hz
 exact ⟨(List.getElem?_eq_some_iff.1 h.ho).1, (List.getElem?_eq_some_iff.1 hz).1, (List.getElem?_eq_some_iff.1 h.src).1⟩
theorem StrI.put {H H' : Ac} {io i2 i1 : Nat} {s : Am} {x x' : AV} {k : Nat} {cells ec : List AV} {ids ids' : List Nat} {K : Ac → Option β} (h : StrI H io i2 i1 s x k cells ids)
  (h1 : OwnSI 6 H' 9 Lm x' (k + 1) (cells ++ ec) ids') (h2 : ∀ i ∈ ids', i ∈ ids ∨ H.length ≤ i) (h3 : ∀ i, i < H.length → i ∉ ids → H'[i]? = H[i]?) (hk : ∀ H'', StrI H'' io i2 i1 s x' (k + 1) (cells ++ ec) ids' → K H'' = r) :
  Dt 1 (.ptr io (0 + 1)) x' H' K = r := by
 obtain ⟨l1, l2, l3⟩ := h.lt
 have hlf : Cx x' = some [x'] := by
  rcases h1 with ⟨_, h0, _⟩ | ⟨id, raw, is, _, rfl, _⟩
  ·omega
  ·rfl
 have ho : H'[io]? = some ⟨[.sc (.int .i64 s.fHeld), x], true, true⟩ := by rw [h3 io l1 h.o1]; exact h.ho
 have hio : io < H'.length := (List.getElem?_eq_some_iff.1 ho).1
 rw [En 1 io (0 + 1) x' _ [x'] H' K ho hlf rfl (A7 rfl) rfl]
 have hni : ∀ j, j < H.length → j ∉ ids → j ∉ ids' := fun j hj hn hm => by
  rcases h2 j hm with h' | h'
  ·exact hn h'
  ·omega
 have hio' := hni io l1 h.o1
 refine hk _ ⟨?_, ?_, ?_, ?_, h.ne, h.ne1, h.ne2, hio', hni i2 l2 h.z1, hni i1 l3 h.s1⟩
 ·rw [List.getElem?_set_self hio]
  rfl
 ·refine h1.frame fun i hi => ?_
  rw [List.getElem?_set_ne (fun (e : io = i) => hio' (e ▸ hi))]
 ·obtain ⟨z2, hz, hl⟩ := h.hz
  exact ⟨z2, by rw [List.getElem?_set_ne h.ne, h3 i2 l2 h.z1]; exact hz, hl⟩
 ·rw [List.getElem?_set_ne (fun e => h.ne1 e.symm), h3 i1 l3 h.s1]
  exact h.src
theorem StrI.fin {H : Ac} {io i2 i1 : Nat} {s : Am} {x : AV} {ids : List Nat} (h : StrI H io i2 i1 s x s.fL.length (s.fL.map A2).flatten ids) :
  (C2 true 2 (.ptr io 0) H fun t => Dt 2 (.ptr i2 0) t H fun H => C2 true 2 (.ptr i2 0) H fun r0 => Bc At E0.tp 26 H r0) = some (.agg (Bs s)) := by
 obtain ⟨l1, l2, l3⟩ := h.lt
 obtain ⟨z2, hz, hzl⟩ := h.hz
 have hx : Aq x = true := by
  rcases h.hs with ⟨rfl, _⟩ | ⟨id, raw, is, _, rfl, _⟩ <;> rfl
 refine F0 (ds := [.sc (.int .i64 s.fHeld), x]) h.ho (A7 rfl) rfl ?_
 have hc : Cx (.agg [.sc (.int .i64 s.fHeld), x]) = some [.sc (.int .i64 s.fHeld), x] := by
  show (if (true && (Aq x && true)) = true then _ else none) = _
  rw [hx]
  rfl
 rw [En 2 i2 0 _ ⟨z2, true, true⟩ [.sc (.int .i64 s.fHeld), x] H _ hz hc rfl (by show 0 + 2 ≤ z2.length; omega) rfl]
 have hs : Cg z2 0 [.sc (.int .i64 s.fHeld), x] = [.sc (.int .i64 s.fHeld), x] := by
  unfold Cg
  rw [List.take_zero, List.nil_append, List.drop_of_length_le (by rw [hzl]; exact Nat.le_refl _), List.append_nil]
 simp only [hs]
 refine F0 (ds := [.sc (.int .i64 s.fHeld), x]) (cs := [.sc (.int .i64 s.fHeld), x]) (by rw [List.getElem?_set_self l2]) (A7 rfl) rfl ?_
 have e1 := (h.hs.frame (H' := H.set i2 ⟨[.sc (.int .i64 s.fHeld), x], true, true⟩) fun i hi => by rw [List.getElem?_set_ne (fun (e : i2 = i) => h.z1 (e ▸ hi))]).res Aag
 obtain ⟨i, hi, hcy⟩ := R5
 rw [Bc, D4, hi, Option.bind_some, hcy]
 simp only [M9, Cm, Gt, e1, Option.bind_some, List.nil_append, List.append_nil]
 rw [if_pos h.hs.nodup]
 rfl
def K2 (s : Am) : Prop := s.fL.length ≤ 1048576 ∧ ∀ x ∈ s.fL, Q9 x
theorem Wp (n : Nat) (hn : 1048576 < n) (s : Am) (hs : K2 s) (io i2 i1 : Nat) : ∀ (t pre : List Cs) (m : Nat) (x : AV) (H : Ac) (ids : List Nat), s.fL = pre ++ t → t.length < m → StrI H io i2 i1 s x pre.length (pre.map A2).flatten ids →
  Oc (PR (n + 5) AV) (n + 5) (fun x H => Bc At E0.tp 26 H x) m (.ptr i1 0) (.ptr i2 0) (.ptr io 0) (.sc (.int .i64 pre.length)) H = some (.agg (Bs s))
 | [], pre, m + 1, x, H, ids, he, hm, hi => by
  rw [List.append_nil] at he
  show (PR (n + 5) AV).fadr _ _ _ = _
  simp only [Bi, A4, Ca, A9, Aw, A6]
  refine Ap ?_
  refine Ce (c := Al A2 s.fL) hi.src (A7 rfl) rfl ?_
  refine Do ?_
  rw [D2, D8, if_neg (by rw [he]; simp)]
  subst he
  exact hi.fin
 | y :: t, pre, m + 1, x, H, ids, he, hm, hi => by
  have hlt : pre.length < s.fL.length := by rw [he]; simp
  have hy := hs.2 y (by rw [he]; simp)
  have hlen := hs.1
  show (PR (n + 5) AV).fadr _ _ _ = _
  simp only [Bi, A4, Ca, A9, Aw, A6, Cc, Be, Bm, Cy]
  refine Ap ?_
  refine Ce (c := Al A2 s.fL) hi.src (A7 rfl) rfl ?_
  refine Do ?_
  rw [D2, D8, if_pos (by simpa using hlt)]
  refine Ap ?_
  refine Ce (c := x) hi.ho (A7 rfl) rfl ?_
  refine Ap ?_
  refine Ce (c := Al A2 s.fL) hi.src (A7 rfl) rfl ?_
  refine AbS Fl (by decide) he ?_
  refine J4 (ds := A2 y) (A7 rfl) rfl ?_
  have hst := fun K h => Tv (β := AV) (n := n + 5) (X0 := []) (z := Ga) (bytes := 128) (K := K) (r := some (.agg (Bs s))) hi.hs rfl (Cl (F7 _ (Gr y)) E6) (Jw n hn y hy) Uu (Ra 3 y) (Gr y) (Fl y) rfl (by omega) h
  simp only [List.append_nil] at hst
  refine hst _ fun x' H' ids' h1 h2 h3 h4 => ?_
  refine Ap ?_
  refine hi.put h1 h2 h3 fun H'' hi' => ?_
  rw [Ey _ _ (by omega)]
  have ih := Wp n hn s hs io i2 i1 t (pre ++ [y]) m x' H'' ids' (by rw [he]; simp) (by simpa using hm) (by
   rw [List.length_append, List.length_singleton, List.map_append, List.flatten_append]
   simpa using hi')
  rw [List.length_append, List.length_singleton] at ih
  exact ih
theorem Mg (n : Nat) (hn : 1048576 < n) (s : Am) (hs : K2 s) (io i2 i1 : Nat) : ∀ (t pre : List Cs) (m : Nat) (x : AV) (H : Ac) (ids : List Nat), s.fL = pre ++ t → t.length < m → StrI H io i2 i1 s x pre.length (pre.map A2).flatten ids →
  S7 (PR (n + 5) AV) (n + 5) (fun x H => Bc At E0.tp 26 H x) m (.ptr i2 0) (.ptr io 0) (Al A2 s.fL) (.sc (.int .i64 s.fL.length)) (.sc (.int .i64 pre.length)) H = some (.agg (Bs s))
 | [], pre, m + 1, x, H, ids, he, hm, hi => by
  rw [List.append_nil] at he
  show (PR (n + 5) AV).bin _ _ _ _ = _
  simp only [Bi, A4, Ca, A9, Aw, A6]
  rw [D2, D8, if_neg (by rw [he]; simp)]
  subst he
  exact hi.fin
 | y :: t, pre, m + 1, x, H, ids, he, hm, hi => by
  have hlt : pre.length < s.fL.length := by rw [he]; simp
  have hy := hs.2 y (by rw [he]; simp)
  have hlen := hs.1
  show (PR (n + 5) AV).bin _ _ _ _ = _
  simp only [Bi, A4, Ca, A9, Aw, A6, Cc, Be, Bm, Cy, Cj]
  rw [D2, D8, if_pos (by simpa using hlt)]
  refine AbS Fl (by decide) he ?_
  refine J4 (ds := A2 y) (A7 rfl) rfl ?_
  refine Zi rfl (Fl _) (Q8 (Gr _)) fun i5 h5 => ?_
  refine Ap ?_
  refine Ce (c := x) (Pa hi.ho _) (A7 rfl) rfl ?_
  refine T6 h5 (Fl _) ?_
  refine Tv (β := AV) (n := n + 5) (X0 := [⟨A2 y, true, true⟩]) (z := Ga) (bytes := 128) (r := some (.agg (Bs s))) hi.hs rfl (Cl (F7 _ (Gr y)) E6) (AbA n hn y hy) Uu (Ra 3 y) (Gr y) (Fl y) rfl (by omega) fun x' H' ids' h1 h2 h3 h4 => ?_
  refine Ap ?_
  refine hi.put h1 h2 h3 fun H'' hi' => ?_
  rw [Ey _ _ (by omega)]
  have ih := Mg n hn s hs io i2 i1 t (pre ++ [y]) m x' H'' ids' (by rw [he]; simp) (by simpa using hm) (by
   rw [List.length_append, List.length_singleton, List.map_append, List.flatten_append]
   simpa using hi')
  rw [List.length_append, List.length_singleton] at ih
  exact ih
theorem AdS (s : Am) : StrI [⟨Bs s, true, true⟩, ⟨D0, true, true⟩, ⟨[.sc (.int .i64 s.fHeld), .nl], true, true⟩] 2 1 0 s .nl 0 [] [] :=
 ⟨rfl, OwnSI.nil _ _ _ _, ⟨D0, rfl, rfl⟩, rfl, by decide, by decide, by decide, by simp, by simp, by simp⟩
theorem Rr (n : Nat) (hn : 1048576 < n) (s : Am) (hs : K2 s) : Di E0 (n + 6) 26 137 [.agg (Bs s)] = some (.agg (Bs s)) := by
 rw [Bu, Aeh, f137]
 simp only [De, Cj, Bi, A4, Be, A6, Ie]
 rw [I5 _ _ _ (Iy s)]
 simp only [List.length_nil, List.nil_append, List.length_cons, Nat.zero_add]
 have hH : ([⟨Bs s, true, true⟩] ++ [⟨[.sc (.int .i64 0), .nl], true, true⟩] : Ac)[0]? = some ⟨Bs s, true, true⟩ := rfl
 refine Ap ?_
 refine Ce (c := .sc (.int .i64 s.fHeld)) hH (A7 rfl) rfl ?_
 refine Lr (cs := [.sc (.int .i64 s.fHeld), .nl]) rfl ?_
 rw [show ([⟨Bs s, true, true⟩] ++ [⟨[.sc (.int .i64 0), .nl], true, true⟩] : Ac).length = 2 from rfl]
 rw [En 2 2 0 _ ⟨D0, true, true⟩ [.sc (.int .i64 s.fHeld), .nl] _ _ rfl rfl rfl (by decide) rfl]
 exact Wp n hn s hs 2 1 0 s.fL [] (n + 5) .nl _ [] rfl (by have := hs.1; omega) (AdS s)
theorem Qx (n : Nat) (hn : 1048576 < n) (s : Am) (hs : K2 s) : Di E0 (n + 6) 26 30 [.agg (Bs s)] = some (.agg (Bs s)) := by
 rw [Bu, Agz, f30]
 simp only [De, Cj, Bi, A4, Be, A6, Ca, Ie]
 rw [I5 _ _ _ (Iy s)]
 simp only [List.length_nil, List.nil_append, List.length_cons, Nat.zero_add]
 have hH : ([⟨Bs s, true, true⟩] ++ [⟨[.sc (.int .i64 0), .nl], true, true⟩] : Ac)[0]? = some ⟨Bs s, true, true⟩ := rfl
 refine Ap ?_
 refine Ce (c := .sc (.int .i64 s.fHeld)) hH (A7 rfl) rfl ?_
 refine Lr (cs := [.sc (.int .i64 s.fHeld), .nl]) rfl ?_
 rw [show ([⟨Bs s, true, true⟩] ++ [⟨[.sc (.int .i64 0), .nl], true, true⟩] : Ac).length = 2 from rfl]
 rw [En 2 2 0 _ ⟨D0, true, true⟩ [.sc (.int .i64 s.fHeld), .nl] _ _ rfl rfl rfl (by decide) rfl]
 refine Ap ?_
 refine Ce (c := Al A2 s.fL) (AdS s).src (A7 rfl) rfl ?_
 refine Do ?_
 exact Mg n hn s hs 2 1 0 s.fL [] (n + 5) .nl _ [] rfl (by have := hs.1; omega) (AdS s)
end
section
open Go
def Av (t lo hi : Int) : Bool := decide (lo ≤ t) && decide (t ≤ hi)
theorem inI (n : Nat) (t lo hi : Int) : Di E0 (n + 1) 4 31 [.sc (.int .i64 t), .sc (.int .i64 lo), .sc (.int .i64 hi)] = some (.sc (.bool (Av t lo hi))) := by
 rw [Bu, AgB, f31]
 simp only [A9, Bx, Ch]
 refine Bf (v := .sc (.bool (decide (lo ≤ t)))) (fun k => rfl) ?_
 cases h : decide (lo ≤ t)
 ·refine Bd rfl ?_
  refine Bd rfl ?_
  refine Bd rfl ?_
  refine P1 rfl ?_
  exact Gz (by rw [Av, h]; rfl)
 ·refine Bb rfl ?_
  refine Bb rfl ?_
  refine Bb rfl ?_
  rw [T8]
  refine On rfl ?_
  exact Gz (by rw [Av, h]; rfl)
theorem Xe (N : Nat) (s : Am) : Bw At E0.tp N M9 (Bs s) = ([.sc (.int .i64 s.fHeld), (Bo At E0.tp N 24 (Al A2 s.fL)).1], (Bo At E0.tp N 24 (Al A2 s.fL)).2) := by
 show Bw At E0.tp N [3, 24] [.sc (.int .i64 s.fHeld), Al A2 s.fL] = _
 simp only [Bw, List.headD_cons, List.tail_cons, G8, List.length_nil, Nat.add_zero, List.nil_append, List.append_nil]
theorem Rg (N : Nat) (s : Am) : Aq (Bo At E0.tp N 24 (Al A2 s.fL)).1 = true := rfl
theorem K8 (s : Am) (h : Int) (b : Bool) (b0 : Gl) (A : AV × List Gl) (hA : Bo At E0.tp 2 24 (Al A2 s.fL) = A) (H : Ac) (hH : H = b0 :: ⟨D0, true, true⟩ :: (A.2 ++ [⟨[.sc (.int .i64 h), A.1], true, true⟩])) :
  (C2 true 2 (.ptr (2 + A.2.length) 0) H fun t => Dt 2 (.ptr 1 0) t H fun H => C2 true 2 (.ptr 1 0) H fun r0 => Bc At E0.tp 29 H (Cq [r0, .sc (.bool b)])) = some (.tup [.agg (Bs { s with fHeld := h }), .sc (.bool b)]) := by
 subst hH
 have hl := Rg 2 s
 rw [hA] at hl
 have hg : (b0 :: ⟨D0, true, true⟩ :: (A.2 ++ [⟨[.sc (.int .i64 h), A.1], true, true⟩]) : Ac)[2 + A.2.length]? = some ⟨[.sc (.int .i64 h), A.1], true, true⟩ := by
  have := Hq (b0 :: ⟨D0, true, true⟩ :: A.2) ⟨[.sc (.int .i64 h), A.1], true, true⟩ []
  rw [List.length_cons, List.length_cons, show A.2.length + 1 + 1 = 2 + A.2.length by omega] at this
  exact this
 refine F0 (ds := [.sc (.int .i64 h), A.1]) hg (A7 rfl) rfl ?_
 have hc : Cx (.agg [.sc (.int .i64 h), A.1]) = some [.sc (.int .i64 h), A.1] := by
  show (if (true && (Aq A.1 && true)) = true then _ else none) = _
  rw [hl]
  rfl
 rw [En 2 1 0 _ ⟨D0, true, true⟩ [.sc (.int .i64 h), A.1] _ _ rfl hc rfl (A7 rfl) rfl]
 refine F0 (ds := [.sc (.int .i64 h), A.1]) (cs := [.sc (.int .i64 h), A.1]) rfl (A7 rfl) rfl ?_
 generalize hX : ([⟨[.sc (.int .i64 h), A.1], true, true⟩] : Ac) = X
 generalize hb1 : (⟨Cg D0 0 [.sc (.int .i64 h), A.1], true, true⟩ : Gl) = b1
 have e1 : B6 At E0.tp (b0 :: b1 :: (A.2 ++ X)) 6 24 A.1 = some (Al A2 s.fL, List.range' 2 A.2.length) := by
  rw [← hA]
  refine F1 6 _ _ 2 (Fk (d := 5) Fl Aag (Ra 2) s.fL) ?_
  rw [hA]
  exact Km [b0, b1] A.2 X
 obtain ⟨i, hi, hcy⟩ := R5
 have e2 : B6 At E0.tp (b0 :: b1 :: (A.2 ++ X)) 7 26 (.agg [.sc (.int .i64 h), A.1]) = some (.agg (Bs { s with fHeld := h }), List.range' 2 A.2.length) := by
  rw [D4, hi, Option.bind_some, hcy]
  simp only [M9, Cm, Gt, e1, Option.bind_some, List.nil_append, List.append_nil]
  rfl
 have e3 : Cm (B6 At E0.tp (b0 :: b1 :: (A.2 ++ X)) 7) [26, 4] [.agg [.sc (.int .i64 h), A.1], .sc (.bool b)] = some ([.agg (Bs { s with fHeld := h }), .sc (.bool b)], List.range' 2 A.2.length) := by
  simp only [Cm, e2, Gt, Option.bind_some, List.append_nil]
 show Bc At E0.tp 29 (b0 :: b1 :: (A.2 ++ X)) (.tup _) = _
 rw [Bc, Ft, show E0.tp 29 = some [26, 4] from rfl, Option.bind_some, e3, Option.bind_some, Option.bind_some, if_pos List.nodup_range']
theorem Wm {n g : Nat} {s : Am} {K : AV → AV → AV → Ac → Option AV} {r : Option AV} (hh : F4 g = false) (ht : Di E0 n 26 g [.agg (Bs s)] = some (.agg (Bs s)))
  (h : ∀ (A : AV × List Gl), Bo At E0.tp 2 24 (Al A2 s.fL) = A → K (.ptr 0 0) (.ptr 1 0) (.ptr (2 + A.2.length) 0) (⟨Bs s, true, true⟩ :: ⟨D0, true, true⟩ :: (A.2 ++ [⟨[.sc (.int .i64 s.fHeld), A.1], true, true⟩])) = r) :
  (Qc (.agg (Bs s)) [] fun t2 H => Ie [.sc (.int .i64 0), .nl] H fun t4 H => C2 true 2 t2 H fun t7 => (PR n AV).call 26 (.fn g [] []) [t7] H fun t8 H => Ie [.sc (.int .i64 0), .nl] H fun t6 H => Dt 2 t6 t8 H fun H => K t2 t4 t6 H) = r := by
 rw [I5 _ _ _ (Iy s)]
 simp only [Ie, List.length_nil, List.nil_append]
 refine F0 (ds := Bs s) (cs := Bs s) rfl (A7 rfl) rfl ?_
 rw [El hh (Cl (F7 _ (Iy _)) E6) ht]
 obtain ⟨i, hi, hc⟩ := R5
 rw [Fq, hi, Option.getD_some, hc, Xe]
 have hl := Rg 2 s
 generalize hA : Bo At E0.tp 2 24 (Al A2 s.fL) = A at hl
 have hA' : Bo At E0.tp ([⟨Bs s, true, true⟩] ++ [⟨[.sc (.int .i64 0), .nl], true, true⟩] : Ac).length 24 (Al A2 s.fL) = A := hA
 rw [hA']
 have hc : Cx (.agg [.sc (.int .i64 s.fHeld), A.1]) = some [.sc (.int .i64 s.fHeld), A.1] := by
  show (if (true && (Aq A.1 && true)) = true then _ else none) = _
  rw [hl]
  rfl
 have hN : ([⟨Bs s, true, true⟩] ++ [⟨[.sc (.int .i64 0), .nl], true, true⟩] ++ A.2 : Ac).length = 2 + A.2.length := by simp; omega
 have hg : ([⟨Bs s, true, true⟩] ++ [⟨[.sc (.int .i64 0), .nl], true, true⟩] ++ A.2 ++ [⟨[.sc (.int .i64 0), .nl], true, true⟩] : Ac)[2 + A.2.length]? = some ⟨D0, true, true⟩ := by
  rw [← hN]
  exact Hq _ _ []
 show Dt 2 (.ptr ([⟨Bs s, true, true⟩] ++ [⟨[.sc (.int .i64 0), .nl], true, true⟩] ++ A.2 : Ac).length 0) (.agg [.sc (.int .i64 s.fHeld), A.1]) _ _ = _
 rw [hN, En 2 (2 + A.2.length) 0 _ ⟨D0, true, true⟩ [.sc (.int .i64 s.fHeld), A.1] _ _ hg hc rfl (A7 rfl) rfl]
 have hs : ([⟨Bs s, true, true⟩] ++ [⟨[.sc (.int .i64 0), .nl], true, true⟩] ++ A.2 ++ [⟨[.sc (.int .i64 0), .nl], true, true⟩] : Ac).set (2 + A.2.length) ⟨Cg D0 0 [.sc (.int .i64 s.fHeld), A.1], true, true⟩ = ⟨Bs s, true, true⟩ :: ⟨D0, true, true⟩ :: (A.2 ++ [⟨[.sc (.int .i64 s.fHeld), A.1], true, true⟩]) := by
  rw [← hN]
  have := R9 ([⟨Bs s, true, true⟩] ++ [⟨[.sc (.int .i64 0), .nl], true, true⟩] ++ A.2 : Ac) ⟨[.sc (.int .i64 0), .nl], true, true⟩ ⟨Cg D0 0 [.sc (.int .i64 s.fHeld), A.1], true, true⟩ []
  rw [this]
  rfl
 exact (congrArg (K (.ptr 0 0) (.ptr 1 0) (.ptr (2 + A.2.length) 0)) hs).trans (h A hA)
theorem W8 {s : Am} {t : Int} {b0 : Gl} {A : AV × List Gl} {K : Ac → Option AV} {r : Option AV} (h : K (b0 :: ⟨D0, true, true⟩ :: (A.2 ++ [⟨[.sc (.int .i64 t), A.1], true, true⟩])) = r) :
  Dt 1 (.ptr (2 + A.2.length) (0 + 0)) (.sc (.int .i64 t)) (b0 :: ⟨D0, true, true⟩ :: (A.2 ++ [⟨[.sc (.int .i64 s.fHeld), A.1], true, true⟩])) (fun H => K H) = r := by
 have hN : (b0 :: ⟨D0, true, true⟩ :: A.2 : Ac).length = 2 + A.2.length := by simp; omega
 have hg : (b0 :: ⟨D0, true, true⟩ :: (A.2 ++ [⟨[.sc (.int .i64 s.fHeld), A.1], true, true⟩]) : Ac)[2 + A.2.length]? = some ⟨[.sc (.int .i64 s.fHeld), A.1], true, true⟩ := by
  rw [← hN]
  exact Hq (b0 :: ⟨D0, true, true⟩ :: A.2) _ []
 rw [En 1 (2 + A.2.length) (0 + 0) _ _ [.sc (.int .i64 t)] _ _ hg rfl rfl (A7 rfl) rfl]
 have e := R9 (b0 :: ⟨D0, true, true⟩ :: A.2) ⟨[.sc (.int .i64 s.fHeld), A.1], true, true⟩ ⟨[.sc (.int .i64 t), A.1], true, true⟩ []
 rw [hN] at e
 exact (congrArg K e).trans h
theorem Uf {s : Am} {A : List Gl} {b1 : Gl} {K : AV → Option AV} {r : Option AV} (h : K (.sc (.int .i64 s.fHeld)) = r) : C2 false 1 (.ptr 0 (0 + 0)) (⟨Bs s, true, true⟩ :: b1 :: A) (fun x => K x) = r :=
 Ce (cs := Bs s) (c := .sc (.int .i64 s.fHeld)) rfl (A7 rfl) rfl h
def Ae (s : Am) (t : Int) : Bool := decide (s.fHeld = -1) && Av t 0 7
def As (s : Am) (t : Int) : Am := { s with fHeld := if Ae s t then t else s.fHeld }
def Ab (s : Am) (t : Int) : Bool := decide (s.fHeld = t) && Av t 0 7
def A1 (s : Am) (t : Int) : Am := { s with fHeld := if Ab s t then -1 else s.fHeld }
theorem smC (s : Am) (h : Iw s ≤ 1048576) : K2 s := by
 have h1 := AaY s h
 refine ⟨h1.1.1, fun x hx => ?_⟩
 have h2 := h1.1.2 x hx
 exact ⟨⟨⟨h2.1.1, fun y hy => (h2.1.2 y hy).1⟩, ⟨h2.2.1.1, fun y hy => (h2.2.1.2 y hy).1⟩⟩, h2.2.2.1⟩
theorem Acz (a b : Int) (k : AV → Option AV) : Fh .neq (.sc (.int .i64 a)) (.sc (.int .i64 b)) k = k (.sc (.bool (!decide (a = b)))) := by
 show k (.sc (.bool (!(a == b)))) = _
 rfl
theorem Ho (n : Nat) (hn : 1048576 < n) (x0 : Am) (x1 : Int) (k0 : Ss x0) (k1 : C3 x1) (b0 : Iw x0 ≤ 1048576) : Di E0 (n + 7) 29 8 [.agg (Bs x0), .sc (.int .i64 x1)] = some (.tup [.agg (Bs (As x0 x1)), .sc (.bool (Ae x0 x1))]) := by
 rw [Bu, Aic, f8]
 simp only [De, Cj, A4, A6, Bi, A9, Bx, Ew, Ch, Aw]
 refine Wm rfl (Qx n hn x0 (smC x0 b0)) fun A hA => ?_
 rw [El (vs := [.sc (.int .i64 x1), .sc (.int .i64 0), .sc (.int .i64 7)]) rfl (Cl (Ed _ _) (Cl (Ed _ _) (Cl (Ed _ _) E6))) (inI (n + 5) x1 0 7), G8]
 simp only [List.append_nil]
 refine Ii ?_
 cases h : Av x1 0 7
 ·refine Du rfl ?_
  refine Du rfl ?_
  refine Du rfl ?_
  refine On rfl ?_
  refine Fo rfl ?_
  have e1 : Ae x0 x1 = false := by rw [Ae, h, Bool.and_false]
  rw [As, e1]
  exact K8 x0 _ false _ A hA _ rfl
 ·refine Dm rfl ?_
  refine Ap ?_
  refine Dm rfl ?_
  refine Uf ?_
  refine Dm rfl ?_
  rw [Acz]
  refine P1 rfl ?_
  cases h2 : decide (x0.fHeld = -1)
  ·refine Fo rfl ?_
   have e1 : Ae x0 x1 = false := by rw [Ae, h2]; rfl
   rw [As, e1]
   exact K8 x0 _ false _ A hA _ rfl
  ·refine Gb rfl ?_
   have e1 : Ae x0 x1 = true := by rw [Ae, h, h2]; rfl
   rw [As, e1]
   refine Ap ?_
   refine W8 ?_
   exact K8 x0 _ true _ A hA _ rfl
theorem Gn (n : Nat) (hn : 1048576 < n) (x0 : Am) (x1 : Int) (k0 : Ss x0) (k1 : C3 x1) (b0 : Iw x0 ≤ 1048576) : Di E0 (n + 7) 29 10 [.agg (Bs x0), .sc (.int .i64 x1)] = some (.tup [.agg (Bs (A1 x0 x1)), .sc (.bool (Ab x0 x1))]) := by
 rw [Bu, Ag0, f10]
 simp only [De, Cj, A4, A6, Bi, A9, Bx, Ew, Ch, Aw]
 refine Wm rfl (Qx n hn x0 (smC x0 b0)) fun A hA => ?_
 rw [El (vs := [.sc (.int .i64 x1), .sc (.int .i64 0), .sc (.int .i64 7)]) rfl (Cl (Ed _ _) (Cl (Ed _ _) (Cl (Ed _ _) E6))) (inI (n + 5) x1 0 7), G8]
 simp only [List.append_nil]
 refine Ii ?_
 cases h : Av x1 0 7
 ·refine Du rfl ?_
  refine Du rfl ?_
  refine Du rfl ?_
  refine Du rfl ?_
  refine On rfl ?_
  refine Fo rfl ?_
  have e1 : Ab x0 x1 = false := by rw [Ab, h, Bool.and_false]
  rw [A1, e1]
  exact K8 x0 _ false _ A hA _ rfl
 ·refine Dm rfl ?_
  refine Ap ?_
  refine Dm rfl ?_
  refine Uf ?_
  refine Dm rfl ?_
  refine Dm rfl ?_
  rw [Acz]
  refine P1 rfl ?_
  cases h2 : decide (x0.fHeld = x1)
  ·refine Fo rfl ?_
   have e1 : Ab x0 x1 = false := by rw [Ab, h2]; rfl
   rw [A1, e1]
   exact K8 x0 _ false _ A hA _ rfl
  ·refine Gb rfl ?_
   have e1 : Ab x0 x1 = true := by rw [Ab, h, h2]; rfl
   rw [A1, e1]
   refine Ap ?_
   refine W8 ?_
   exact K8 x0 _ true _ A hA _ rfl
end
section
open Go
def StrB (b : Nat) (s : Am) : Prop := (C3 s.fHeld ∧ ∀ z ∈ s.fL, SessB 700 z) ∧ s.fL.length ≤ b
theorem Mp {b : Nat} {s : Am} (h : StrB b s) : s.fL.length ≤ b := h.2
theorem Fy {b : Nat} {h : Int} {l : List Cs} (h1 : C3 h) (h2 : ∀ z ∈ l, SessB 700 z) (h3 : l.length ≤ b) : StrB b ⟨h, l⟩ := ⟨⟨h1, h2⟩, h3⟩
theorem StrB.mono {a b : Nat} {s : Am} (h : StrB a s) (hab : a ≤ b) : StrB b s := ⟨h.1, Nat.le_trans h.2 hab⟩
theorem V1 {α : Type} {w : α → Nat} {k : Nat} : ∀ (l : List α), (∀ z ∈ l, w z ≤ k) → F2 w l ≤ l.length * (k + 1)
 | [], _ => Nat.zero_le _
 | x :: l, h => by
  have h1 := h x (List.mem_cons_self ..)
  have h2 := V1 l fun z hz => h z (List.mem_cons_of_mem _ hz)
  show 1 + w x + F2 w l ≤ (l.length + 1) * (k + 1)
  rw [Nat.add_mul]
  omega
theorem StrB.wt {b : Nat} {s : Am} (h : StrB b s) : Iw s ≤ b * 701 := by
 have h1 := V1 (w := I9) (k := 700) s.fL fun z hz => (h.1.2 z hz).wt
 have h2 : s.fL.length * 701 ≤ b * 701 := Nat.mul_le_mul_right _ h.2
 unfold Iw
 omega
theorem StrB.ok {b : Nat} {s : Am} (h : StrB b s) (hb : b ≤ 1048576) : Ss s := ⟨h.1.1, by have := h.2; omega, fun z hz => (h.1.2 z hz).ok (by decide)⟩
def AgV (o : Option AV) : Prop := ∃ sv b, StrB 9 sv ∧ o = some (.tup [.agg (Bs sv), .sc (.bool b)])
theorem Aiy (n : Nat) (hn : 1048576 < n) (x0 : Am) (x1 : Cs) (hx0 : StrB 9 x0) (hx1 : SessB 700 x1) : AgV (Di E0 (n + 16) 29 100 [.agg (Bs x0), .agg (A2 x1)]) := by
 rw [Bu, Aea, f100]
 refine Iu (G := AgV) ?_
 try simp only [De, Cj, Bm, Bi, A4, A6, A9, Ep, Er, Ew, Aw, Bx, Ch, Ca, Dx, Cc, Fn, D1, Dj, Be, Fm, Cy, O2, Eg, Or, E8, Nn, Fc, N6, M1, Rw, Mr, Pc]
 have s0 : Sep [] [] := Kd
 have hx0w : Iw x0 ≤ 1048576 := Nat.le_trans hx0.wt (by decide)
 have hx1w : I9 x1 ≤ 1048576 := Nat.le_trans hx1.wt (by decide)
 have hx0l := hx0.2
 have hx0h := hx0.1.1
 refine Qh s0 (H8 (Iy _)) fun i1 H s2 => ?_
 refine Qh s2 (H8 (Gr _)) fun i3 H s4 => ?_
 refine C8 s4 fun i5 H s6 => ?_
 refine Aj s6 A8 rfl ?_
 refine F6 (v := (.bool (Jj x1))) s6 rfl (.aggF (Gr _) .nil) (Qb (n + 4) (by omega) _ x1 (Lj x1 hx1w).1 (Lj x1 hx1w).2.1 (Lj x1 hx1w).2.2) ?_
 refine F8 ?_
 refine Ai ((Jj x1)) (fun h7 => ?_) (fun h7 => ?_)
 ·refine B3 (nF h7) ?_
  refine Af (o' := 0) rfl ?_
  refine Ay (c := .sc (.int .i64 x0.fHeld)) s6 Ci rfl ?_
  refine Bk (cs := [.sc (.int .i64 x0.fHeld), .nl]) rfl ?_
  refine C8 s6 fun i8 H s9 => ?_
  refine A3 (cs' := [.sc (.int .i64 x0.fHeld), .nl]) s9 (.here) (Ad (Aa rfl (Aa rfl rfl))) rfl (A7 rfl) rfl fun H s10 => ?_
  have lp11 : ∀ (j m : Nat) (z : Int) (a4 : Bool) (m3 : Am) (m3x1 : AV) (i : Nat) (h : Int) (H : Ac), j < m → 0 ≤ z ∧ z + ((j : Nat) : Int) = max (((x0.fL.length : Nat) : Int)) 0 → Aq m3x1 = true → (C3 m3.fHeld ∧ (∀ y ∈ m3.fL, SessB 700 y) ∧ m3.fL.length ≤ 2 * (z : Int).toNat) → Sep H (.own m3x1 24 (Al A2 m3.fL) :: .blk i8 [.sc (.int .i64 m3.fHeld), m3x1] true :: .blk i5 [.sc (.int .i64 0), .nl] true :: .blk i3 (A2 x1) true :: .blk i1 (Bs x0) true :: []) → Gd AgV (Kp (PR ((n + 15)) AV) ((n + 15)) (fun x H => Bc At E0.tp 29 H x) m (.ptr i1 0) (.ptr i3 0) (.ptr i5 0) (.ptr i8 0) (.sc (.bool a4)) (.sc (.int .i64 z)) H) := by
   intro j
   induction j with
   | zero =>
    intro m0 z a4 m3 m3x1 i h H hm hz lm3x1 hinv s0
    obtain ⟨m, rfl⟩ : ∃ m, m0 = m + 1 := ⟨m0 - 1, by omega⟩
    obtain ⟨hv1, hv2, hv3⟩ := hinv
    rw [Kp]
    try simp only [Bm, Bi, A4, A6, A9, Ew, Aw, Bx, Ch, Ca, Cc, Be, Cy]
    refine Af (o' := 1) rfl ?_
    refine Ay (c := Al A2 x0.fL) s0 Fa rfl ?_
    refine Ox ?_
    refine Hw ?_
    refine B3 (decide_eq_false (by omega)) ?_
    refine F8 ?_
    refine F3 ?_
    refine Ai (a4) (fun h12 => ?_) (fun h12 => ?_)
    ·refine B3 (nF h12) ?_
     refine Af (o' := 1) rfl ?_
     refine Ay (c := m3x1) s0 A8 rfl ?_
     refine Ic s0 (.here) ?_
     refine Js ?_
     refine Ai ((decide (3 < ((m3.fL.length : Nat) : Int)))) (fun h13 => ?_) (fun h13 => ?_)
     ·refine C1 h13 ?_
      refine Aj s0 Fa rfl ?_
      have c14 := Rr (n + 9) (by omega) x0 (smC x0 hx0w)
      refine E9 s0 rfl (.aggF (Iy _) .nil) (c14) ⟨_, rfl, rfl⟩ (Bz (D3 (ty := 24) rfl (Ec x0.fL) Cp)) ?_
      rintro _ _ H ⟨_, rfl, ⟨x15, _, _, lx15, rfl, rfl, ⟨rfl, rfl⟩⟩⟩ s16
      simp only [List.nil_append, List.cons_append] at s16
      refine A3 (cs' := [.sc (.int .i64 x0.fHeld), x15]) s16 Cz (Ad (Aa rfl (Aa lx15 rfl))) rfl (A7 rfl) rfl fun H s17 => ?_
      refine Aj s17 (.here) rfl ?_
      have dh13 := of_decide_eq_true h13
      refine Dr (Fw s17 rfl (.agg ⟨_, rfl, rfl⟩ (.sc (.own A8 .nil)) (.sc .nil)) ⟨(Hx ⟨_, rfl, rfl⟩ ⟨trivial, ⟨(Bp (Ec x0.fL) (by decide)), trivial⟩⟩), ⟨trivial, trivial⟩⟩) ?_
      exact ⟨x0, false, by first | exact hx0 | exact ⟨⟨by assumption, by first | assumption | exact Bq (by assumption) (by assumption)⟩, by first | omega | (simp only [List.length_append, List.length_singleton] at *; omega)⟩, rfl⟩
     ·refine B3 h13 ?_
      refine Aj s0 A8 rfl ?_
      refine A3 (cs' := [.sc (.int .i64 m3.fHeld), m3x1]) s0 Ci (Ad (Aa rfl (Aa lm3x1 rfl))) rfl (A7 rfl) rfl fun H s18 => ?_
      refine Aj s18 (.here) rfl ?_
      have dh13 := of_decide_eq_false h13
      refine Dr (Fw s18 rfl (.agg ⟨_, rfl, rfl⟩ (.sc (.own A8 .nil)) (.sc .nil)) ⟨(Hx ⟨_, rfl, rfl⟩ ⟨trivial, ⟨(Bp (Ec m3.fL) (by decide)), trivial⟩⟩), ⟨trivial, trivial⟩⟩) ?_
      exact ⟨m3, true, by first | exact hx0 | exact ⟨⟨by assumption, by first | assumption | exact Bq (by assumption) (by assumption)⟩, by first | omega | (simp only [List.length_append, List.length_singleton] at *; omega)⟩, rfl⟩
    ·refine C1 (nT h12) ?_
     refine Af (o' := 1) rfl ?_
     refine Ay (c := m3x1) s0 A8 rfl ?_
     refine Aj s0 Cz rfl ?_
     have c19 := Jw (n + 10) (by omega) x1 (Acj x1 (Nat.le_trans (SessB.wt (by first | exact hx1 | assumption)) (by decide)))
     refine E9 s0 rfl (.aggF (Gr _) .nil) (c19) ⟨_, rfl, rfl⟩ (Kl _) ?_
     rintro _ _ H ⟨x20, x21, x22, lx20, lx21, lx22, rfl, rfl⟩ s23
     simp only [List.nil_append, List.cons_append] at s23
     refine Bk (cs := [.sc (.string x1.fClient), .sc (.int .i64 x1.fBorn), .sc (.bool x1.fClean), .sc (.int .i64 x1.fConn), .sc (.int .i64 x1.fGen), .sc (.int .i64 x1.fO.fLast), x20, x21, x22]) (Ei (z' := [.sc (.string x1.fClient), .sc (.int .i64 x1.fBorn), .sc (.bool x1.fClean), .sc (.int .i64 x1.fConn), .sc (.int .i64 x1.fGen), .sc (.int .i64 x1.fO.fLast), x20, x21, x22]) (Ad (Aa rfl (Aa rfl (Aa rfl (Aa rfl (Aa rfl (Aa rfl (Aa lx20 (Aa lx21 (Aa lx22 rfl)))))))))) rfl (A7 rfl) rfl (rfl)) ?_
     refine Bl s23 fun i24 H s25 => ?_
     refine Ib (cty := [9, 3, 4, 3, 3, 3, 113, 79, 53]) (e := (x1 : Cs)) s25 ⟨_, _, rfl, rfl, rfl, rfl⟩ Fa (.here) rfl (Aa rfl (Aa rfl (Aa rfl (Aa rfl (Aa rfl (Aa rfl (Aa lx20 (Aa lx21 (Aa lx22 rfl))))))))) (.sc (.sc (.sc (.sc (.sc (.sc (.own Ci (.own A8 (.own (.here) .nil))))))))) ⟨trivial, ⟨trivial, ⟨trivial, ⟨trivial, ⟨trivial, ⟨trivial, ⟨(Ff x1.fO.fFl), ⟨(Hv x1.fO.fQ), ⟨(Sk x1.fIn), trivial⟩⟩⟩⟩⟩⟩⟩⟩⟩ rfl (by first | omega | (simp only [List.length_append, List.length_singleton]; omega)) fun x26 H lx26 s27 => ?_
     refine Af (o' := 1) rfl ?_
     refine A3 (cs' := [.sc (.int .i64 m3.fHeld), x26]) s27 A8 (Ak lx26) rfl (A7 rfl) rfl fun H s28 => ?_
     refine Af (o' := 1) rfl ?_
     refine Ay (c := x26) s28 (.here) rfl ?_
     refine Ic s28 A8 ?_
     refine Js ?_
     refine Ai ((decide (3 < (((m3.fL ++ [x1]).length : Nat) : Int)))) (fun h29 => ?_) (fun h29 => ?_)
     ·refine C1 h29 ?_
      refine Aj s28 Fa rfl ?_
      have c30 := Rr (n + 9) (by omega) x0 (smC x0 hx0w)
      refine E9 s28 rfl (.aggF (Iy _) .nil) (c30) ⟨_, rfl, rfl⟩ (Bz (D3 (ty := 24) rfl (Ec x0.fL) Cp)) ?_
      rintro _ _ H ⟨_, rfl, ⟨x31, _, _, lx31, rfl, rfl, ⟨rfl, rfl⟩⟩⟩ s32
      simp only [List.nil_append, List.cons_append] at s32
      refine A3 (cs' := [.sc (.int .i64 x0.fHeld), x31]) s32 Cz (Ad (Aa rfl (Aa lx31 rfl))) rfl (A7 rfl) rfl fun H s33 => ?_
      refine Aj s33 (.here) rfl ?_
      have dh29 := of_decide_eq_true h29
      refine Dr (Fw s33 rfl (.agg ⟨_, rfl, rfl⟩ (.sc (.own A8 .nil)) (.sc .nil)) ⟨(Hx ⟨_, rfl, rfl⟩ ⟨trivial, ⟨(Bp (Ec x0.fL) (by decide)), trivial⟩⟩), ⟨trivial, trivial⟩⟩) ?_
      exact ⟨x0, false, by first | exact hx0 | exact ⟨⟨by assumption, by first | assumption | exact Bq (by assumption) (by assumption)⟩, by first | omega | (simp only [List.length_append, List.length_singleton] at *; omega)⟩, rfl⟩
     ·refine B3 h29 ?_
      refine Aj s28 (.here) rfl ?_
      refine A3 (cs' := [.sc (.int .i64 m3.fHeld), x26]) s28 Ci (Ad (Aa rfl (Aa lx26 rfl))) rfl (A7 rfl) rfl fun H s34 => ?_
      refine Aj s34 (.here) rfl ?_
      have dh29 := of_decide_eq_false h29
      refine Dr (Fw s34 rfl (.agg ⟨_, rfl, rfl⟩ (.sc (.own Ci .nil)) (.sc .nil)) ⟨(Hx ⟨_, rfl, rfl⟩ ⟨trivial, ⟨(Bp (Ec (m3.fL ++ [x1])) (by decide)), trivial⟩⟩), ⟨trivial, trivial⟩⟩) ?_
      exact ⟨(⟨m3.fHeld, (m3.fL ++ [x1])⟩ : Am), true, by first | exact hx0 | exact ⟨⟨by assumption, by first | assumption | exact Bq (by assumption) (by assumption)⟩, by first | omega | (simp only [List.length_append, List.length_singleton] at *; omega)⟩, rfl⟩
   | succ j ih =>
    intro m0 z a4 m3 m3x1 i h H hm hz lm3x1 hinv s0
    obtain ⟨m, rfl⟩ : ∃ m, m0 = m + 1 := ⟨m0 - 1, by omega⟩
    obtain ⟨hv1, hv2, hv3⟩ := hinv
    rw [Kp]
    try simp only [Bm, Bi, A4, A6, A9, Ew, Aw, Bx, Ch, Ca, Cc, Be, Cy]
    refine Af (o' := 1) rfl ?_
    refine Ay (c := Al A2 x0.fL) s0 Fa rfl ?_
    refine Ox ?_
    refine Hw ?_
    refine C1 (decide_eq_true (by omega)) ?_
    refine F8 ?_
    refine Ai (a4) (fun h35 => ?_) (fun h35 => ?_)
    ·refine B0 (nF h35) ?_
     refine B0 (nF h35) ?_
     refine B0 (nF h35) ?_
     refine B0 (nF h35) ?_
     refine B0 (nF h35) ?_
     refine B0 (nF h35) ?_
     refine B0 (nF h35) ?_
     refine B0 (nF h35) ?_
     refine B0 (nF h35) ?_
     refine C4 (nF h35) ?_
     refine F3 ?_
     refine B3 rfl ?_
     refine Af (o' := 1) rfl ?_
     refine Ay (c := Al A2 x0.fL) s0 Fa rfl ?_
     refine L0 Fl (by decide) (by omega) (by first | omega | (simp at *; omega)) fun y36 ry36 hy36 => ?_
     refine Od ?_
     refine Rn (c := .sc (.string y36.fClient)) rfl ?_
     refine Af (o' := 0) rfl ?_
     refine Ay (c := .sc (.string x1.fClient)) s0 Cz rfl ?_
     refine Xp ?_
     refine Ai ((y36.fClient.toList == x1.fClient.toList)) (fun h37 => ?_) (fun h37 => ?_)
     ·refine B3 (nF h37) ?_
      refine Eo (by omega) (by omega) ?_
      have e38 : C3 (m3 : Am).fHeld ∧ (∀ y ∈ (m3 : Am).fL, SessB 700 y) ∧ (m3 : Am).fL.length ≤ 2 * ((z + 1) : Int).toNat := by
       refine ⟨by assumption, by first | assumption | exact Bq (by assumption) (by assumption) | exact Bq (Bq (by assumption) (by assumption)) (by assumption) | (intro y hy; cases hy; done), by first | omega | (simp only [List.length_append, List.length_singleton, List.length_nil]; omega)⟩
      exact ih m _ a4 (m3 : Am) m3x1 0 0 _ (by omega) (by omega) lm3x1 e38 (s0.sel (.cons (.here) (.cons (.here) (.cons (.here) (.cons (.here) (.cons (.here) .nil))))))
     ·refine C1 (nT h37) ?_
      refine Af (o' := 1) rfl ?_
      refine Ay (c := m3x1) s0 A8 rfl ?_
      refine Af (o' := 1) rfl ?_
      refine Ay (c := Al A2 x0.fL) s0 Fa rfl ?_
      refine L0 Fl (by decide) (by omega) (by first | omega | (simp at *; omega)) fun y39 ry39 hy39 => ?_
      refine Z9 (Fl _) ?_
      have hby39 : SessB 700 y39 := hx0.1.2 _ (List.mem_of_getElem? hy39)
      have c40 := Jw (n + 10) (by omega) y39 (Acj y39 (Nat.le_trans (SessB.wt (by first | exact hx1 | assumption)) (by decide)))
      refine E9 s0 rfl (.aggF (Gr _) .nil) (c40) ⟨_, rfl, rfl⟩ (Kl _) ?_
      rintro _ _ H ⟨x41, x42, x43, lx41, lx42, lx43, rfl, rfl⟩ s44
      simp only [List.nil_append, List.cons_append] at s44
      refine Bk (cs := [.sc (.string y39.fClient), .sc (.int .i64 y39.fBorn), .sc (.bool y39.fClean), .sc (.int .i64 y39.fConn), .sc (.int .i64 y39.fGen), .sc (.int .i64 y39.fO.fLast), x41, x42, x43]) (Ei (z' := [.sc (.string y39.fClient), .sc (.int .i64 y39.fBorn), .sc (.bool y39.fClean), .sc (.int .i64 y39.fConn), .sc (.int .i64 y39.fGen), .sc (.int .i64 y39.fO.fLast), x41, x42, x43]) (Ad (Aa rfl (Aa rfl (Aa rfl (Aa rfl (Aa rfl (Aa rfl (Aa lx41 (Aa lx42 (Aa lx43 rfl)))))))))) rfl (A7 rfl) rfl (rfl)) ?_
      refine Bl s44 fun i45 H s46 => ?_
      refine Ib (cty := [9, 3, 4, 3, 3, 3, 113, 79, 53]) (e := (y39 : Cs)) s46 ⟨_, _, rfl, rfl, rfl, rfl⟩ Fa (.here) rfl (Aa rfl (Aa rfl (Aa rfl (Aa rfl (Aa rfl (Aa rfl (Aa lx41 (Aa lx42 (Aa lx43 rfl))))))))) (.sc (.sc (.sc (.sc (.sc (.sc (.own Ci (.own A8 (.own (.here) .nil))))))))) ⟨trivial, ⟨trivial, ⟨trivial, ⟨trivial, ⟨trivial, ⟨trivial, ⟨(Ff y39.fO.fFl), ⟨(Hv y39.fO.fQ), ⟨(Sk y39.fIn), trivial⟩⟩⟩⟩⟩⟩⟩⟩⟩ rfl (by first | omega | (simp only [List.length_append, List.length_singleton]; omega)) fun x47 H lx47 s48 => ?_
      refine Af (o' := 1) rfl ?_
      refine A3 (cs' := [.sc (.int .i64 m3.fHeld), x47]) s48 A8 (Ak lx47) rfl (A7 rfl) rfl fun H s49 => ?_
      refine Eo (by omega) (by omega) ?_
      have e50 : C3 (⟨m3.fHeld, (m3.fL ++ [y39])⟩ : Am).fHeld ∧ (∀ y ∈ (⟨m3.fHeld, (m3.fL ++ [y39])⟩ : Am).fL, SessB 700 y) ∧ (⟨m3.fHeld, (m3.fL ++ [y39])⟩ : Am).fL.length ≤ 2 * ((z + 1) : Int).toNat := by
       refine ⟨by assumption, by first | assumption | exact Bq (by assumption) (by assumption) | exact Bq (Bq (by assumption) (by assumption)) (by assumption) | (intro y hy; cases hy; done), by first | omega | (simp only [List.length_append, List.length_singleton, List.length_nil]; omega)⟩
      exact ih m _ a4 (⟨m3.fHeld, (m3.fL ++ [y39])⟩ : Am) x47 0 0 _ (by omega) (by omega) lx47 e50 (s49.sel (.cons A8 (.cons (.here) (.cons (.here) (.cons (.here) (.cons (.here) .nil))))))
    ·refine Ag (nT h35) ?_
     refine Af (o' := 1) rfl ?_
     refine Ag (nT h35) ?_
     refine Ay (c := Al A2 x0.fL) s0 Fa rfl ?_
     refine Ag (nT h35) ?_
     refine Ag (nT h35) ?_
     refine L0 Fl (by decide) (by omega) (by first | omega | (simp at *; omega)) fun y51 ry51 hy51 => ?_
     refine Ag (nT h35) ?_
     refine Od ?_
     refine Ag (nT h35) ?_
     refine Rn (c := .sc (.string y51.fClient)) rfl ?_
     refine Ag (nT h35) ?_
     refine Af (o' := 0) rfl ?_
     refine Ag (nT h35) ?_
     refine Ay (c := .sc (.string x1.fClient)) s0 Cz rfl ?_
     refine Ag (nT h35) ?_
     refine Ph (v := .sc (.bool (!(Op.bytesLess y51.fClient.toList x1.fClient.toList)))) (fun k => rfl) ?_
     refine D9 (nT h35) ?_
     refine F3 ?_
     refine Ai ((Op.bytesLess y51.fClient.toList x1.fClient.toList)) (fun h52 => ?_) (fun h52 => ?_)
     ·refine B3 (nF h52) ?_
      refine Af (o' := 1) rfl ?_
      refine Ay (c := Al A2 x0.fL) s0 Fa rfl ?_
      refine L0 Fl (by decide) (by omega) (by first | omega | (simp at *; omega)) fun y53 ry53 hy53 => ?_
      refine Od ?_
      refine Rn (c := .sc (.string y53.fClient)) rfl ?_
      refine Af (o' := 0) rfl ?_
      refine Ay (c := .sc (.string x1.fClient)) s0 Cz rfl ?_
      refine Xp ?_
      refine Ai ((y53.fClient.toList == x1.fClient.toList)) (fun h54 => ?_) (fun h54 => ?_)
      ·refine B3 (nF h54) ?_
       refine Eo (by omega) (by omega) ?_
       have e55 : C3 (m3 : Am).fHeld ∧ (∀ y ∈ (m3 : Am).fL, SessB 700 y) ∧ (m3 : Am).fL.length ≤ 2 * ((z + 1) : Int).toNat := by
        refine ⟨by assumption, by first | assumption | exact Bq (by assumption) (by assumption) | exact Bq (Bq (by assumption) (by assumption)) (by assumption) | (intro y hy; cases hy; done), by first | omega | (simp only [List.length_append, List.length_singleton, List.length_nil]; omega)⟩
       exact ih m _ a4 (m3 : Am) m3x1 0 0 _ (by omega) (by omega) lm3x1 e55 (s0.sel (.cons (.here) (.cons (.here) (.cons (.here) (.cons (.here) (.cons (.here) .nil))))))
      ·refine C1 (nT h54) ?_
       refine Af (o' := 1) rfl ?_
       refine Ay (c := m3x1) s0 A8 rfl ?_
       refine Af (o' := 1) rfl ?_
       refine Ay (c := Al A2 x0.fL) s0 Fa rfl ?_
       refine L0 Fl (by decide) (by omega) (by first | omega | (simp at *; omega)) fun y56 ry56 hy56 => ?_
       refine Z9 (Fl _) ?_
       have hby56 : SessB 700 y56 := hx0.1.2 _ (List.mem_of_getElem? hy56)
       have c57 := Jw (n + 10) (by omega) y56 (Acj y56 (Nat.le_trans (SessB.wt (by first | exact hx1 | assumption)) (by decide)))
       refine E9 s0 rfl (.aggF (Gr _) .nil) (c57) ⟨_, rfl, rfl⟩ (Kl _) ?_
       rintro _ _ H ⟨x58, x59, x60, lx58, lx59, lx60, rfl, rfl⟩ s61
       simp only [List.nil_append, List.cons_append] at s61
       refine Bk (cs := [.sc (.string y56.fClient), .sc (.int .i64 y56.fBorn), .sc (.bool y56.fClean), .sc (.int .i64 y56.fConn), .sc (.int .i64 y56.fGen), .sc (.int .i64 y56.fO.fLast), x58, x59, x60]) (Ei (z' := [.sc (.string y56.fClient), .sc (.int .i64 y56.fBorn), .sc (.bool y56.fClean), .sc (.int .i64 y56.fConn), .sc (.int .i64 y56.fGen), .sc (.int .i64 y56.fO.fLast), x58, x59, x60]) (Ad (Aa rfl (Aa rfl (Aa rfl (Aa rfl (Aa rfl (Aa rfl (Aa lx58 (Aa lx59 (Aa lx60 rfl)))))))))) rfl (A7 rfl) rfl (rfl)) ?_
       refine Bl s61 fun i62 H s63 => ?_
       refine Ib (cty := [9, 3, 4, 3, 3, 3, 113, 79, 53]) (e := (y56 : Cs)) s63 ⟨_, _, rfl, rfl, rfl, rfl⟩ Fa (.here) rfl (Aa rfl (Aa rfl (Aa rfl (Aa rfl (Aa rfl (Aa rfl (Aa lx58 (Aa lx59 (Aa lx60 rfl))))))))) (.sc (.sc (.sc (.sc (.sc (.sc (.own Ci (.own A8 (.own (.here) .nil))))))))) ⟨trivial, ⟨trivial, ⟨trivial, ⟨trivial, ⟨trivial, ⟨trivial, ⟨(Ff y56.fO.fFl), ⟨(Hv y56.fO.fQ), ⟨(Sk y56.fIn), trivial⟩⟩⟩⟩⟩⟩⟩⟩⟩ rfl (by first | omega | (simp only [List.length_append, List.length_singleton]; omega)) fun x64 H lx64 s65 => ?_
       refine Af (o' := 1) rfl ?_
       refine A3 (cs' := [.sc (.int .i64 m3.fHeld), x64]) s65 A8 (Ak lx64) rfl (A7 rfl) rfl fun H s66 => ?_
       refine Eo (by omega) (by omega) ?_
       have e67 : C3 (⟨m3.fHeld, (m3.fL ++ [y56])⟩ : Am).fHeld ∧ (∀ y ∈ (⟨m3.fHeld, (m3.fL ++ [y56])⟩ : Am).fL, SessB 700 y) ∧ (⟨m3.fHeld, (m3.fL ++ [y56])⟩ : Am).fL.length ≤ 2 * ((z + 1) : Int).toNat := by
        refine ⟨by assumption, by first | assumption | exact Bq (by assumption) (by assumption) | exact Bq (Bq (by assumption) (by assumption)) (by assumption) | (intro y hy; cases hy; done), by first | omega | (simp only [List.length_append, List.length_singleton, List.length_nil]; omega)⟩
       exact ih m _ a4 (⟨m3.fHeld, (m3.fL ++ [y56])⟩ : Am) x64 0 0 _ (by omega) (by omega) lx64 e67 (s66.sel (.cons A8 (.cons (.here) (.cons (.here) (.cons (.here) (.cons (.here) .nil))))))
     ·refine C1 (nT h52) ?_
      refine Af (o' := 1) rfl ?_
      refine Ay (c := m3x1) s0 A8 rfl ?_
      refine Aj s0 Cz rfl ?_
      have c68 := Jw (n + 10) (by omega) x1 (Acj x1 (Nat.le_trans (SessB.wt (by first | exact hx1 | assumption)) (by decide)))
      refine E9 s0 rfl (.aggF (Gr _) .nil) (c68) ⟨_, rfl, rfl⟩ (Kl _) ?_
      rintro _ _ H ⟨x69, x70, x71, lx69, lx70, lx71, rfl, rfl⟩ s72
      simp only [List.nil_append, List.cons_append] at s72
      refine Bk (cs := [.sc (.string x1.fClient), .sc (.int .i64 x1.fBorn), .sc (.bool x1.fClean), .sc (.int .i64 x1.fConn), .sc (.int .i64 x1.fGen), .sc (.int .i64 x1.fO.fLast), x69, x70, x71]) (Ei (z' := [.sc (.string x1.fClient), .sc (.int .i64 x1.fBorn), .sc (.bool x1.fClean), .sc (.int .i64 x1.fConn), .sc (.int .i64 x1.fGen), .sc (.int .i64 x1.fO.fLast), x69, x70, x71]) (Ad (Aa rfl (Aa rfl (Aa rfl (Aa rfl (Aa rfl (Aa rfl (Aa lx69 (Aa lx70 (Aa lx71 rfl)))))))))) rfl (A7 rfl) rfl (rfl)) ?_
      refine Bl s72 fun i73 H s74 => ?_
      refine Ib (cty := [9, 3, 4, 3, 3, 3, 113, 79, 53]) (e := (x1 : Cs)) s74 ⟨_, _, rfl, rfl, rfl, rfl⟩ Fa (.here) rfl (Aa rfl (Aa rfl (Aa rfl (Aa rfl (Aa rfl (Aa rfl (Aa lx69 (Aa lx70 (Aa lx71 rfl))))))))) (.sc (.sc (.sc (.sc (.sc (.sc (.own Ci (.own A8 (.own (.here) .nil))))))))) ⟨trivial, ⟨trivial, ⟨trivial, ⟨trivial, ⟨trivial, ⟨trivial, ⟨(Ff x1.fO.fFl), ⟨(Hv x1.fO.fQ), ⟨(Sk x1.fIn), trivial⟩⟩⟩⟩⟩⟩⟩⟩⟩ rfl (by first | omega | (simp only [List.length_append, List.length_singleton]; omega)) fun x75 H lx75 s76 => ?_
      refine Af (o' := 1) rfl ?_
      refine A3 (cs' := [.sc (.int .i64 m3.fHeld), x75]) s76 A8 (Ak lx75) rfl (A7 rfl) rfl fun H s77 => ?_
      refine Af (o' := 1) rfl ?_
      refine Ay (c := Al A2 x0.fL) s77 Fa rfl ?_
      refine L0 Fl (by decide) (by omega) (by first | omega | (simp at *; omega)) fun y78 ry78 hy78 => ?_
      refine Od ?_
      refine Rn (c := .sc (.string y78.fClient)) rfl ?_
      refine Af (o' := 0) rfl ?_
      refine Ay (c := .sc (.string x1.fClient)) s77 Cz rfl ?_
      refine Xp ?_
      refine Ai ((y78.fClient.toList == x1.fClient.toList)) (fun h79 => ?_) (fun h79 => ?_)
      ·refine B3 (nF h79) ?_
       refine Eo (by omega) (by omega) ?_
       have e80 : C3 (⟨m3.fHeld, (m3.fL ++ [x1])⟩ : Am).fHeld ∧ (∀ y ∈ (⟨m3.fHeld, (m3.fL ++ [x1])⟩ : Am).fL, SessB 700 y) ∧ (⟨m3.fHeld, (m3.fL ++ [x1])⟩ : Am).fL.length ≤ 2 * ((z + 1) : Int).toNat := by
        refine ⟨by assumption, by first | assumption | exact Bq (by assumption) (by assumption) | exact Bq (Bq (by assumption) (by assumption)) (by assumption) | (intro y hy; cases hy; done), by first | omega | (simp only [List.length_append, List.length_singleton, List.length_nil]; omega)⟩
       exact ih m _ true (⟨m3.fHeld, (m3.fL ++ [x1])⟩ : Am) x75 0 0 _ (by omega) (by omega) lx75 e80 (s77.sel (.cons A8 (.cons (.here) (.cons (.here) (.cons (.here) (.cons (.here) .nil))))))
      ·refine C1 (nT h79) ?_
       refine Af (o' := 1) rfl ?_
       refine Ay (c := x75) s77 (.here) rfl ?_
       refine Af (o' := 1) rfl ?_
       refine Ay (c := Al A2 x0.fL) s77 Fa rfl ?_
       refine L0 Fl (by decide) (by omega) (by first | omega | (simp at *; omega)) fun y81 ry81 hy81 => ?_
       refine Z9 (Fl _) ?_
       have hby81 : SessB 700 y81 := hx0.1.2 _ (List.mem_of_getElem? hy81)
       have c82 := Jw (n + 10) (by omega) y81 (Acj y81 (Nat.le_trans (SessB.wt (by first | exact hx1 | assumption)) (by decide)))
       refine E9 s77 rfl (.aggF (Gr _) .nil) (c82) ⟨_, rfl, rfl⟩ (Kl _) ?_
       rintro _ _ H ⟨x83, x84, x85, lx83, lx84, lx85, rfl, rfl⟩ s86
       simp only [List.nil_append, List.cons_append] at s86
       refine Bk (cs := [.sc (.string y81.fClient), .sc (.int .i64 y81.fBorn), .sc (.bool y81.fClean), .sc (.int .i64 y81.fConn), .sc (.int .i64 y81.fGen), .sc (.int .i64 y81.fO.fLast), x83, x84, x85]) (Ei (z' := [.sc (.string y81.fClient), .sc (.int .i64 y81.fBorn), .sc (.bool y81.fClean), .sc (.int .i64 y81.fConn), .sc (.int .i64 y81.fGen), .sc (.int .i64 y81.fO.fLast), x83, x84, x85]) (Ad (Aa rfl (Aa rfl (Aa rfl (Aa rfl (Aa rfl (Aa rfl (Aa lx83 (Aa lx84 (Aa lx85 rfl)))))))))) rfl (A7 rfl) rfl (rfl)) ?_
       refine Bl s86 fun i87 H s88 => ?_
       refine Ib (cty := [9, 3, 4, 3, 3, 3, 113, 79, 53]) (e := (y81 : Cs)) s88 ⟨_, _, rfl, rfl, rfl, rfl⟩ Lf (.here) rfl (Aa rfl (Aa rfl (Aa rfl (Aa rfl (Aa rfl (Aa rfl (Aa lx83 (Aa lx84 (Aa lx85 rfl))))))))) (.sc (.sc (.sc (.sc (.sc (.sc (.own Ci (.own A8 (.own (.here) .nil))))))))) ⟨trivial, ⟨trivial, ⟨trivial, ⟨trivial, ⟨trivial, ⟨trivial, ⟨(Ff y81.fO.fFl), ⟨(Hv y81.fO.fQ), ⟨(Sk y81.fIn), trivial⟩⟩⟩⟩⟩⟩⟩⟩⟩ rfl (by first | omega | (simp only [List.length_append, List.length_singleton]; omega)) fun x89 H lx89 s90 => ?_
       refine Af (o' := 1) rfl ?_
       refine A3 (cs' := [.sc (.int .i64 m3.fHeld), x89]) s90 A8 (Ak lx89) rfl (A7 rfl) rfl fun H s91 => ?_
       refine Eo (by omega) (by omega) ?_
       have e92 : C3 (⟨m3.fHeld, ((m3.fL ++ [x1]) ++ [y81])⟩ : Am).fHeld ∧ (∀ y ∈ (⟨m3.fHeld, ((m3.fL ++ [x1]) ++ [y81])⟩ : Am).fL, SessB 700 y) ∧ (⟨m3.fHeld, ((m3.fL ++ [x1]) ++ [y81])⟩ : Am).fL.length ≤ 2 * ((z + 1) : Int).toNat := by
        refine ⟨by assumption, by first | assumption | exact Bq (by assumption) (by assumption) | exact Bq (Bq (by assumption) (by assumption)) (by assumption) | (intro y hy; cases hy; done), by first | omega | (simp only [List.length_append, List.length_singleton, List.length_nil]; omega)⟩
       exact ih m _ true (⟨m3.fHeld, ((m3.fL ++ [x1]) ++ [y81])⟩ : Am) x89 0 0 _ (by omega) (by omega) lx89 e92 (s91.sel (.cons A8 (.cons (.here) (.cons (.here) (.cons (.here) (.cons (.here) .nil))))))
  have s93 := s10.nl (ty := 24) ⟨_, _, rfl, rfl⟩
  have e94 : C3 (⟨x0.fHeld, []⟩ : Am).fHeld ∧ (∀ y ∈ (⟨x0.fHeld, []⟩ : Am).fL, SessB 700 y) ∧ (⟨x0.fHeld, []⟩ : Am).fL.length ≤ 2 * (0 : Int).toNat := by
   refine ⟨by assumption, by first | assumption | exact Bq (by assumption) (by assumption) | exact Bq (Bq (by assumption) (by assumption)) (by assumption) | (intro y hy; cases hy; done), by first | omega | (simp only [List.length_append, List.length_singleton, List.length_nil]; omega)⟩
  exact lp11 (max (((x0.fL.length : Nat) : Int)) 0 - 0).toNat _ _ false (⟨x0.fHeld, []⟩ : Am) .nl 0 0 _ (by omega) (by omega) rfl e94 (s93.sel (.cons (.here) (.cons (.here) (.cons (.here) (.cons (.here) (.cons (.here) .nil))))))
 ·refine C1 (nT h7) ?_
  refine Aj s6 Ci rfl ?_
  have c95 := Rr (n + 9) (by omega) x0 (smC x0 hx0w)
  refine E9 s6 rfl (.aggF (Iy _) .nil) (c95) ⟨_, rfl, rfl⟩ (Bz (D3 (ty := 24) rfl (Ec x0.fL) Cp)) ?_
  rintro _ _ H ⟨_, rfl, ⟨x96, _, _, lx96, rfl, rfl, ⟨rfl, rfl⟩⟩⟩ s97
  simp only [List.nil_append, List.cons_append] at s97
  refine A3 (cs' := [.sc (.int .i64 x0.fHeld), x96]) s97 A8 (Ad (Aa rfl (Aa lx96 rfl))) rfl (A7 rfl) rfl fun H s98 => ?_
  refine Aj s98 (.here) rfl ?_
  refine Dr (Fw s98 rfl (.agg ⟨_, rfl, rfl⟩ (.sc (.own A8 .nil)) (.sc .nil)) ⟨(Hx ⟨_, rfl, rfl⟩ ⟨trivial, ⟨(Bp (Ec x0.fL) (by decide)), trivial⟩⟩), ⟨trivial, trivial⟩⟩) ?_
  exact ⟨x0, false, by first | exact hx0 | exact ⟨⟨by assumption, by first | assumption | exact Bq (by assumption) (by assumption)⟩, by first | omega | (simp only [List.length_append, List.length_singleton] at *; omega)⟩, rfl⟩
end
section
open Go
def AdJ : List UInt8 → Nat
 | [] => 0
 | c :: l => c.toNat + AdJ l
def Va (s : ByteArray) : Int := ((AdJ s.data.toList % 3 : Nat) : Int)
theorem Md (n : Nat) (k : AV → Ac → Option AV) (H : Ac) (s : ByteArray) (hs : s.size ≤ 1048576) : ∀ (r pre : List UInt8) (a m : Nat), s.data.toList = pre ++ r → a < 3 → r.length < m → Oa (PR n AV) n k m (.sc (.string s)) (.sc (.int .i64 a)) (.sc (.int .i64 pre.length)) H = k (.sc (.int .i64 (((a + AdJ r) % 3 : Nat) : Int))) H
 | [], pre, a, m + 1, hl, ha, hm => by
  have h1 : s.size = pre.length := by
   have := congrArg List.length hl
   simpa using this
  rw [Oa]
  simp only [Dx, A9, Aw]
  rw [Oz, D2, h1, D8, if_neg (by simp), AdJ, Nat.add_zero, Nat.mod_eq_of_lt ha]
 | c :: r, pre, a, m + 1, hl, ha, hm => by
  have h1 : s.size = pre.length + r.length + 1 := by
   have := congrArg List.length hl
   simpa [Nat.add_assoc] using this
  have hc := c.toNat_lt
  rw [Oa]
  simp only [Dx, A9, Aw, Fn, Eg]
  rw [Oz, D2, D8, if_pos (by simp; omega), Adv s pre.length c _ (by rw [hl]; simp)]
  simp only [Wu, Xo, Option.bind_some]
  rw [Fe _ (by omega) (by omega), Qo, ← Int.natCast_add, Fe _ (by omega) (by omega)]
  have hm3 : ∀ k : AV → Option AV, Fh .rem (.sc (.int .i64 ((a + c.toNat : Nat) : Int))) (.sc (.int .i64 3)) k = k (.sc (.int .i64 (((a + c.toNat) % 3 : Nat) : Int))) := fun k => rfl
  rw [hm3, Ey _ _ (by omega)]
  have ih := Md n k H s hs r (pre ++ [c]) ((a + c.toNat) % 3) m (by rw [hl]; simp) (Nat.mod_lt _ (by decide)) (by simpa using hm)
  rw [List.length_append, List.length_singleton] at ih
  rw [ih, AdJ]
  congr 4
  omega
theorem Wr (n : Nat) (hn : 1048576 < n) (ty : Nat) (s : ByteArray) (hs : s.size ≤ 1048576) : Di E0 (n + 1) ty 99 [.sc (.string s)] = some (.sc (.int .i64 (Va s))) := by
 rw [Bu, AgX, f99]
 have key := Md n (fun x H => Bc At E0.tp ty H x) [] s hs s.data.toList [] 0 n rfl (by decide) (by simp; omega)
 simp only [List.length_nil, Int.natCast_zero, Nat.zero_add] at key
 rw [key]
 rfl
end
section
open Go
theorem Ada (n : Nat) (hn : 1048576 < n) (code : ByteArray) (hcode : code.size ≤ 1048576) (c i : Nat) (h : Int)   {β : Type} {r : Option β} {KH : KO β} {H : Ac} {L : List Ck} (s0 : Sep H (Cr c code i h :: L)) (hk : ∀ (r0 : Am) (r0x1 : AV) (r1 : Int) (i' : Nat) (h' : Int) (H' : Ac), (Aq r0x1 = true) → (StrB 9 r0) → (0 ≤ r1 ∧ r1 ≤ 2) → Sep H' (.own r0x1 24 (Al A2 r0.fL) :: Cr c code i' h' :: L) → Gd (· = r) (KH (.tup [.agg [.sc (.int .i64 r0.fHeld), r0x1], .sc (.int .i64 r1)]) H')) : Gd (· = r) (Dc E0 (n + 20) β 61 [.ptr c 0] H fun x H => KH x H) := by
 rw [AgS, f61]
 try simp only [Cj, A6, A9, Be]
 refine C8 s0 fun i1 H s2 => ?_
 refine D7 (m := 3) hcode (by omega) s2 A8 fun z3 iq4 hq4 H hz3 sq4 => ?_
 replace hz3 : 0 ≤ z3 ∧ z3 < 3 := by omega
 refine D7 (m := 9) hcode (by omega) sq4 (.here) fun z5 iq6 hq6 H hz5 sq6 => ?_
 replace hz5 : 0 ≤ z5 ∧ z5 < 9 := by omega
 refine K7 (by omega) (by omega) ?_
 refine Bk (cs := [.sc (.int .i64 (z5 - 1)), .nl]) rfl ?_
 refine C8 sq6 fun i7 H s8 => ?_
 refine A3 (cs' := [.sc (.int .i64 (z5 - 1)), .nl]) s8 (.here) (Ad (Aa rfl (Aa rfl rfl))) rfl (A7 rfl) rfl fun H s9 => ?_
 refine D7 (m := 5) hcode (by omega) s9 A8 fun z10 iq11 hq11 H hz10 sq11 => ?_
 replace hz10 : 0 ≤ z10 ∧ z10 < 5 := by omega
 have lp12 : ∀ (j m : Nat) (z : Int) (m3 : Am) (m3x1 : AV) (i : Nat) (h : Int) (H : Ac), j < m → z = ((j : Nat) : Int) → Aq m3x1 = true → (StrB 9 m3 ∧ j ≤ 4) → Sep H (.own m3x1 24 (Al A2 m3.fL) :: Cr c code i h :: .blk i7 [.sc (.int .i64 m3.fHeld), m3x1] true :: .blk i1 [.sc (.int .i64 0), .nl] true :: L) → Gd (· = r) (Ms (PR ((n + 19)) β) ((n + 19)) (fun x H => KH x H) m (.ptr c 0) (.ptr i1 0) (.sc (.int .i64 z3)) (.ptr i7 0) (.sc (.int .i64 z)) H) := by
  clear s0 s2 sq4 sq6 s8 s9 sq11
  intro j
  induction j with
  | zero =>
   intro m0 z m3 m3x1 i h H hm hz lm3x1 hinv s0
   obtain ⟨m, rfl⟩ : ∃ m, m0 = m + 1 := ⟨m0 - 1, by omega⟩
   obtain ⟨hv1, hv2⟩ := hinv
   rw [Ms]
   try simp only [Cj, Bm, Bi, A4, A6, A9, Aw, Be, Fc]
   refine Js ?_
   refine B3 (decide_eq_false (by omega)) ?_
   refine Aj s0 Ci rfl ?_
   refine A3 (cs' := [.sc (.int .i64 m3.fHeld), m3x1]) s0 Cz (Ad (Aa rfl (Aa lm3x1 rfl))) rfl (A7 rfl) rfl fun H s13 => ?_
   refine Aj s13 (.here) rfl ?_
   have e14 : StrB 9 (m3 : Am) := by
    first | assumption | exact StrB.mono (by assumption) (by omega) | (refine Fy ?_ ?_ ?_ <;> first | assumption | omega | (simp only [C3]; omega) | exact Bq (by assumption) (SessB.mono (by assumption) (by omega)) | (simp only [List.length_append, List.length_singleton]; omega))
   have e15 : 0 ≤ z3 ∧ z3 ≤ 2 := by
    first | omega | (simp only [Co, Cb]; omega) | (simp; omega)
   exact hk (m3 : Am) m3x1 z3 i h _ lm3x1 e14 e15 (s13.sel (.cons A8 (.cons A8 N8)))
  | succ j ih =>
   intro m0 z m3 m3x1 i h H hm hz lm3x1 hinv s0
   obtain ⟨m, rfl⟩ : ∃ m, m0 = m + 1 := ⟨m0 - 1, by omega⟩
   obtain ⟨hv1, hv2⟩ := hinv
   rw [Ms]
   try simp only [Cj, Bm, Bi, A4, A6, A9, Aw, Be, Fc]
   refine Js ?_
   refine C1 (decide_eq_true (by omega)) ?_
   refine Bk (cs := [.sc (.string (⟨#[97]⟩)), .sc (.string (⟨#[98]⟩)), .sc (.string (⟨#[99]⟩)), .sc (.string (⟨#[100]⟩)), .sc (.string (⟨#[101]⟩)), .sc (.string (⟨#[102]⟩)), .sc (.string (⟨#[103]⟩)), .sc (.string (⟨#[104]⟩)), .sc (.string (⟨#[105]⟩))]) rfl ?_
   refine Bl s0 fun i16 H s17 => ?_
   refine Vq hcode (by omega) (by omega) rfl s17 Ci (.here) fun z18a iq19 hq19 H mz18 sq19 => ?_
   have s20 := (sq19.pick A8).tail
   obtain ⟨z18, rfl, hz18⟩ := Hz (l := [⟨#[97]⟩, ⟨#[98]⟩, ⟨#[99]⟩, ⟨#[100]⟩, ⟨#[101]⟩, ⟨#[102]⟩, ⟨#[103]⟩, ⟨#[104]⟩, ⟨#[105]⟩]) (m := 1) mz18 (by decide)
   refine Gc rfl rfl ?_
   refine K4 _ (by omega) code hcode c iq19 hq19 z18 (by omega) (s20.pick (.here)) fun r21 r21x6 r21x7 r21x8 iq22 hq22 H lr21x6 lr21x7 lr21x8 hr21 sq22 => ?_
   have kr21 := hr21
   obtain ⟨⟨oar21, obr21, ocr21, odr21, oer21, ofr21⟩, wr21⟩ := kr21
   have gr21 := Hb hr21
   refine C8 sq22 fun i23 H s24 => ?_
   refine A3 (cs' := [.sc (.string r21.fClient), .sc (.int .i64 r21.fBorn), .sc (.bool r21.fClean), .sc (.int .i64 r21.fConn), .sc (.int .i64 r21.fGen), .sc (.int .i64 r21.fO.fLast), r21x6, r21x7, r21x8]) s24 (.here) (Ad (Aa rfl (Aa rfl (Aa rfl (Aa rfl (Aa rfl (Aa rfl (Aa lr21x6 (Aa lr21x7 (Aa lr21x8 rfl)))))))))) rfl (A7 rfl) rfl fun H s25 => ?_
   refine Af (o' := 0) rfl ?_
   refine Ay (c := .sc (.string r21.fClient)) s25 (.here) rfl ?_
   refine F6 (v := (.int .i64 (Va r21.fClient))) s25 rfl (.cons .sc .nil) (Wr (n + 18) (by omega) _ r21.fClient (by omega)) ?_
   refine Bv ?_
   refine Ai ((decide ((Va r21.fClient) = z3))) (fun h26 => ?_) (fun h26 => ?_)
   ·refine C1 h26 ?_
    refine Aj s25 Q0 rfl ?_
    refine Aj s25 (.here) rfl ?_
    obtain ⟨v27, bv27, hv27, ev27⟩ := Aiy (n + 3) (by omega) m3 r21 (by assumption) (SessB.mono (by assumption) (by omega))
    refine Es s25 rfl (.agg (.cons .sc (.cons (.own (by decide) Lf) .nil)) (.agg (.cons .sc (.cons .sc (.cons .sc (.cons .sc (.cons .sc (.cons .sc (.cons (.own (by decide) A8) (.cons (.own (by decide) Ci) (.cons (.own (by decide) Cz) .nil))))))))) .nil)) (ev27) rfl (Ek ⟨_, rfl, rfl⟩ (Bz (D3 (ty := 24) rfl (Ec v27.fL) Cp)) (Bz Cp)) ?_
    rintro _ _ H ⟨_, _, _, _, rfl, rfl, ⟨_, rfl, ⟨x28, _, _, lx28, rfl, rfl, ⟨rfl, rfl⟩⟩⟩, ⟨_, rfl, ⟨rfl, rfl⟩⟩⟩ s29
    simp only [List.nil_append, List.cons_append] at s29
    refine Cn (v := .agg [.sc (.int .i64 v27.fHeld), x28]) rfl ?_
    refine Cn (v := .sc (.bool bv27)) rfl ?_
    refine A3 (cs' := [.sc (.int .i64 v27.fHeld), x28]) s29 zP7 (Ad (Aa rfl (Aa lx28 rfl))) rfl (A7 rfl) rfl fun H s30 => ?_
    refine K7 (by omega) (by omega) ?_
    have e31 : StrB 9 (v27 : Am) ∧ j ≤ 4 := by
     refine ⟨?_, by omega⟩; first | assumption | exact Fy (by simp only [C3]; omega) (fun z hz => by cases hz) (by decide)
    exact ih m _ (v27 : Am) x28 iq22 hq22 _ (by omega) (by omega) lx28 e31 (s30.sel (.cons A8 (.cons Lf (.cons (.here) (.cons Lf zS5)))))
   ·refine B3 h26 ?_
    refine K7 (by omega) (by omega) ?_
    have e32 : StrB 9 (m3 : Am) ∧ j ≤ 4 := by
     refine ⟨?_, by omega⟩; first | assumption | exact Fy (by simp only [C3]; omega) (fun z hz => by cases hz) (by decide)
    exact ih m _ (m3 : Am) m3x1 iq22 hq22 _ (by omega) (by omega) lm3x1 e32 (s25.sel (.cons Lf (.cons Fa (.cons Fa (.cons Fa zS4)))))
 have s33 := sq11.nl (ty := 24) ⟨_, _, rfl, rfl⟩
 have e34 : StrB 9 (⟨(z5 - 1), []⟩ : Am) ∧ (z10).toNat ≤ 4 := by
  refine ⟨?_, by omega⟩; first | assumption | exact Fy (by simp only [C3]; omega) (fun z hz => by cases hz) (by decide)
 exact lp12 (z10).toNat _ _ (⟨(z5 - 1), []⟩ : Am) .nl iq11 hq11 _ (by omega) (by omega) rfl e34 (s33.sel (.cons (.here) (.cons (.here) (.cons (.here) (.cons (.here) .rest)))))
theorem Aas (n : Nat) (hn : 1048576 < n) (code : ByteArray) (hcode : code.size ≤ 1048576) (c i : Nat) (h : Int)   {β : Type} {r : Option β} {KH : KO β} {H : Ac} {L : List Ck} (s0 : Sep H (Cr c code i h :: L)) (hk : ∀ (r0 : Am) (r0x1 : AV) (r1 : Int) (i' : Nat) (h' : Int) (H' : Ac), (Aq r0x1 = true) → (StrB 13 r0) → (0 ≤ r1 ∧ r1 ≤ 3) → Sep H' (.own r0x1 24 (Al A2 r0.fL) :: Cr c code i' h' :: L) → Gd (· = r) (KH (.tup [.agg [.sc (.int .i64 r0.fHeld), r0x1], .sc (.int .i64 r1)]) H')) : Gd (· = r) (Dc E0 (n + 22) β 27 [.ptr c 0] H fun x H => KH x H) := by
 rw [Ahz, f27]
 try simp only [Cj, Bm, Bi, A4, A6, A9, Aw, Be, Cy, Fc]
 refine C8 s0 fun i1 H s2 => ?_
 refine Gc rfl rfl ?_
 refine Ada _ (by omega) code hcode c i h   (s2.pick A8) fun r3 r3x1 r4 iq5 hq5 H lr3x1 hr3 hr4 sq5 => ?_
 have kr3 := hr3
 obtain ⟨⟨oar3, obr3⟩, wr3⟩ := kr3
 have uar3 := oar3
 simp only [C3] at uar3
 have gr3 := Mp hr3
 refine Cn (v := .agg [.sc (.int .i64 r3.fHeld), r3x1]) rfl ?_
 refine Cn (v := .sc (.int .i64 r4)) rfl ?_
 refine C8 sq5 fun i6 H s7 => ?_
 refine A3 (cs' := [.sc (.int .i64 r3.fHeld), r3x1]) s7 (.here) (Ad (Aa rfl (Aa lr3x1 rfl))) rfl (A7 rfl) rfl fun H s8 => ?_
 refine D7 (m := 12) hcode (by omega) s8 Ci fun z9 iq10 hq10 H hz9 sq10 => ?_
 replace hz9 : 0 ≤ z9 ∧ z9 < 12 := by omega
 refine Bv ?_
 refine Ai ((decide (z9 = 0))) (fun h11 => ?_) (fun h11 => ?_)
 ·refine C1 h11 ?_
  refine Bk (cs := [.sc (.int .i64 (-2)), .sc (.int .i64 8)]) rfl ?_
  refine Bl sq10 fun i12 H s13 => ?_
  refine Dl hcode (by omega) (by omega) rfl s13 A8 (.here) fun z14a iq15 hq15 H mz14 sq15 => ?_
  have s16 := (sq15.pick A8).tail
  obtain ⟨z14, rfl, hz14⟩ := A5 (l := [(-2), 8]) (lo := -2) (hi := 8) mz14 (by decide)
  refine Af (o' := 0) rfl ?_
  refine A3 (cs' := [.sc (.int .i64 z14), r3x1]) s16 A8 (Ak rfl) rfl (A7 rfl) rfl fun H s17 => ?_
  refine Aj s17 (.here) rfl ?_
  refine A3 (cs' := [.sc (.int .i64 z14), r3x1]) s17 Cz (Ad (Aa rfl (Aa lr3x1 rfl))) rfl (A7 rfl) rfl fun H s18 => ?_
  refine Aj s18 (.here) rfl ?_
  have e19 : StrB 13 (⟨z14, r3.fL⟩ : Am) := by
   first | assumption | exact StrB.mono (by assumption) (by omega) | (refine Fy ?_ ?_ ?_ <;> first | assumption | omega | (simp only [C3]; omega) | exact Bq (by assumption) (SessB.mono (by assumption) (by omega)) | (simp only [List.length_append, List.length_singleton]; omega))
  have e20 : 0 ≤ r4 ∧ r4 ≤ 3 := by
   first | omega | (simp only [Co, Cb]; omega) | (simp; omega)
  exact hk (⟨z14, r3.fL⟩ : Am) r3x1 r4 iq15 hq15 _ lr3x1 e19 e20 (s18.sel (.cons Cz (.cons Ci N8)))
 ·refine B3 h11 ?_
  refine Bv ?_
  refine Ai ((decide (z9 = 1))) (fun h21 => ?_) (fun h21 => ?_)
  ·refine C1 h21 ?_
   refine Af (o' := 1) rfl ?_
   refine Gd.bothE ?_ ?_
   ·refine Ay (c := r3x1) sq10 A8 rfl ?_
    refine Gc rfl rfl ?_
    refine Aak _ (by omega) code hcode c iq10 hq10   (sq10.pick (.here)) fun r22 r22x6 r22x7 r22x8 iq23 hq23 H lr22x6 lr22x7 lr22x8 hr22 sq23 => ?_
    have kr22 := hr22
    obtain ⟨⟨oar22, obr22, ocr22, odr22, oer22, ofr22⟩, wr22⟩ := kr22
    have gr22 := Hb hr22
    refine Bk (cs := [.sc (.string r22.fClient), .sc (.int .i64 r22.fBorn), .sc (.bool r22.fClean), .sc (.int .i64 r22.fConn), .sc (.int .i64 r22.fGen), .sc (.int .i64 r22.fO.fLast), r22x6, r22x7, r22x8]) (Ei (z' := [.sc (.string r22.fClient), .sc (.int .i64 r22.fBorn), .sc (.bool r22.fClean), .sc (.int .i64 r22.fConn), .sc (.int .i64 r22.fGen), .sc (.int .i64 r22.fO.fLast), r22x6, r22x7, r22x8]) (Ad (Aa rfl (Aa rfl (Aa rfl (Aa rfl (Aa rfl (Aa rfl (Aa lr22x6 (Aa lr22x7 (Aa lr22x8 rfl)))))))))) rfl (A7 rfl) rfl (rfl)) ?_
    refine Bl sq23 fun i24 H s25 => ?_
    refine Ib (cty := [9, 3, 4, 3, 3, 3, 113, 79, 53]) (e := (r22 : Cs)) s25 ⟨_, _, rfl, rfl, rfl, rfl⟩ Q0 (.here) rfl (Aa rfl (Aa rfl (Aa rfl (Aa rfl (Aa rfl (Aa rfl (Aa lr22x6 (Aa lr22x7 (Aa lr22x8 rfl))))))))) (.sc (.sc (.sc (.sc (.sc (.sc (.own (.here) (.own (.here) (.own (.here) .nil))))))))) ⟨trivial, ⟨trivial, ⟨trivial, ⟨trivial, ⟨trivial, ⟨trivial, ⟨(Ff r22.fO.fFl), ⟨(Hv r22.fO.fQ), ⟨(Sk r22.fIn), trivial⟩⟩⟩⟩⟩⟩⟩⟩⟩ rfl (by first | omega | (simp only [List.length_append, List.length_singleton]; omega)) fun x26 H lx26 s27 => ?_
    refine Af (o' := 1) rfl ?_
    refine A3 (cs' := [.sc (.int .i64 r3.fHeld), x26]) s27 Ci (Ak lx26) rfl (A7 rfl) rfl fun H s28 => ?_
    refine Aj s28 (.here) rfl ?_
    refine A3 (cs' := [.sc (.int .i64 r3.fHeld), x26]) s28 Cz (Ad (Aa rfl (Aa lx26 rfl))) rfl (A7 rfl) rfl fun H s29 => ?_
    refine Aj s29 (.here) rfl ?_
    have e30 : StrB 13 (⟨r3.fHeld, (r3.fL ++ [r22])⟩ : Am) := by
     first | assumption | exact StrB.mono (by assumption) (by omega) | (refine Fy ?_ ?_ ?_ <;> first | assumption | omega | (simp only [C3]; omega) | exact Bq (by assumption) (SessB.mono (by assumption) (by omega)) | (simp only [List.length_append, List.length_singleton]; omega))
    have e31 : 0 ≤ r4 ∧ r4 ≤ 3 := by
     first | omega | (simp only [Co, Cb]; omega) | (simp; omega)
    exact hk (⟨r3.fHeld, (r3.fL ++ [r22])⟩ : Am) x26 r4 iq23 hq23 _ lx26 e30 e31 (s29.sel (.cons Ci (.cons Ci N8)))
   ·refine Gc rfl rfl ?_
    refine Aak _ (by omega) code hcode c iq10 hq10   (sq10.pick (.here)) fun r32 r32x6 r32x7 r32x8 iq33 hq33 H lr32x6 lr32x7 lr32x8 hr32 sq33 => ?_
    have kr32 := hr32
    obtain ⟨⟨oar32, obr32, ocr32, odr32, oer32, ofr32⟩, wr32⟩ := kr32
    have gr32 := Hb hr32
    refine Ay (c := r3x1) sq33 Fa rfl ?_
    refine Bk (cs := [.sc (.string r32.fClient), .sc (.int .i64 r32.fBorn), .sc (.bool r32.fClean), .sc (.int .i64 r32.fConn), .sc (.int .i64 r32.fGen), .sc (.int .i64 r32.fO.fLast), r32x6, r32x7, r32x8]) (Ei (z' := [.sc (.string r32.fClient), .sc (.int .i64 r32.fBorn), .sc (.bool r32.fClean), .sc (.int .i64 r32.fConn), .sc (.int .i64 r32.fGen), .sc (.int .i64 r32.fO.fLast), r32x6, r32x7, r32x8]) (Ad (Aa rfl (Aa rfl (Aa rfl (Aa rfl (Aa rfl (Aa rfl (Aa lr32x6 (Aa lr32x7 (Aa lr32x8 rfl)))))))))) rfl (A7 rfl) rfl (rfl)) ?_
    refine Bl sq33 fun i34 H s35 => ?_
    refine Ib (cty := [9, 3, 4, 3, 3, 3, 113, 79, 53]) (e := (r32 : Cs)) s35 ⟨_, _, rfl, rfl, rfl, rfl⟩ Q0 (.here) rfl (Aa rfl (Aa rfl (Aa rfl (Aa rfl (Aa rfl (Aa rfl (Aa lr32x6 (Aa lr32x7 (Aa lr32x8 rfl))))))))) (.sc (.sc (.sc (.sc (.sc (.sc (.own (.here) (.own (.here) (.own (.here) .nil))))))))) ⟨trivial, ⟨trivial, ⟨trivial, ⟨trivial, ⟨trivial, ⟨trivial, ⟨(Ff r32.fO.fFl), ⟨(Hv r32.fO.fQ), ⟨(Sk r32.fIn), trivial⟩⟩⟩⟩⟩⟩⟩⟩⟩ rfl (by first | omega | (simp only [List.length_append, List.length_singleton]; omega)) fun x36 H lx36 s37 => ?_
    refine Af (o' := 1) rfl ?_
    refine A3 (cs' := [.sc (.int .i64 r3.fHeld), x36]) s37 Ci (Ak lx36) rfl (A7 rfl) rfl fun H s38 => ?_
    refine Aj s38 (.here) rfl ?_
    refine A3 (cs' := [.sc (.int .i64 r3.fHeld), x36]) s38 Cz (Ad (Aa rfl (Aa lx36 rfl))) rfl (A7 rfl) rfl fun H s39 => ?_
    refine Aj s39 (.here) rfl ?_
    have e40 : StrB 13 (⟨r3.fHeld, (r3.fL ++ [r32])⟩ : Am) := by
     first | assumption | exact StrB.mono (by assumption) (by omega) | (refine Fy ?_ ?_ ?_ <;> first | assumption | omega | (simp only [C3]; omega) | exact Bq (by assumption) (SessB.mono (by assumption) (by omega)) | (simp only [List.length_append, List.length_singleton]; omega))
    have e41 : 0 ≤ r4 ∧ r4 ≤ 3 := by
     first | omega | (simp only [Co, Cb]; omega) | (simp; omega)
    exact hk (⟨r3.fHeld, (r3.fL ++ [r32])⟩ : Am) x36 r4 iq33 hq33 _ lx36 e40 e41 (s39.sel (.cons Ci (.cons Ci N8)))
  ·refine B3 h21 ?_
   refine Bv ?_
   refine Ai ((decide (z9 = 2))) (fun h42 => ?_) (fun h42 => ?_)
   ·refine C1 h42 ?_
    refine D7 (m := 4) hcode (by omega) sq10 (.here) fun z43 iq44 hq44 H hz43 sq44 => ?_
    replace hz43 : 0 ≤ z43 ∧ z43 < 4 := by omega
    refine Aj sq44 A8 rfl ?_
    refine A3 (cs' := [.sc (.int .i64 r3.fHeld), r3x1]) sq44 Cz (Ad (Aa rfl (Aa lr3x1 rfl))) rfl (A7 rfl) rfl fun H s45 => ?_
    refine Aj s45 (.here) rfl ?_
    have e46 : StrB 13 (r3 : Am) := by
     first | assumption | exact StrB.mono (by assumption) (by omega) | (refine Fy ?_ ?_ ?_ <;> first | assumption | omega | (simp only [C3]; omega) | exact Bq (by assumption) (SessB.mono (by assumption) (by omega)) | (simp only [List.length_append, List.length_singleton]; omega))
    have e47 : 0 ≤ z43 ∧ z43 ≤ 3 := by
     first | omega | (simp only [Co, Cb]; omega) | (simp; omega)
    exact hk (r3 : Am) r3x1 z43 iq44 hq44 _ lr3x1 e46 e47 (s45.sel (.cons Cz (.cons A8 N8)))
   ·refine B3 h42 ?_
    refine Bv ?_
    refine Ai ((decide (z9 = 3))) (fun h48 => ?_) (fun h48 => ?_)
    ·refine C1 h48 ?_
     have lp49 : ∀ (j m : Nat) (z : Int) (m2 : Am) (m2x1 : AV) (i : Nat) (h : Int) (H : Ac), j < m → 0 ≤ z ∧ z + ((j : Nat) : Int) = max ((4 : Int)) 0 → Aq m2x1 = true → (StrB 13 m2 ∧ m2.fL.length + j ≤ 13) → Sep H (.own m2x1 24 (Al A2 m2.fL) :: Cr c code i h :: .blk i6 [.sc (.int .i64 m2.fHeld), m2x1] true :: .blk i1 [.sc (.int .i64 0), .nl] true :: L) → Gd (· = r) (Kt (PR ((n + 21)) β) ((n + 21)) (fun x H => KH x H) m (.ptr c 0) (.ptr i1 0) (.ptr i6 0) (.sc (.int .i64 r4)) (.sc (.int .i64 z)) H) := by
      clear s0 s2 sq5 s7 s8 sq10
      intro j
      induction j with
      | zero =>
       intro m0 z m2 m2x1 i h H hm hz lm2x1 hinv s0
       obtain ⟨m, rfl⟩ : ∃ m, m0 = m + 1 := ⟨m0 - 1, by omega⟩
       obtain ⟨⟨⟨hv1, hv2⟩, hv3⟩, hv4⟩ := hinv
       rw [Kt]
       try simp only [Bm, Bi, A4, A6, A9, Aw, Be, Cy]
       refine Hw ?_
       refine B3 (decide_eq_false (by omega)) ?_
       refine Aj s0 Ci rfl ?_
       refine A3 (cs' := [.sc (.int .i64 m2.fHeld), m2x1]) s0 Cz (Ad (Aa rfl (Aa lm2x1 rfl))) rfl (A7 rfl) rfl fun H s50 => ?_
       refine Aj s50 (.here) rfl ?_
       have e51 : StrB 13 (m2 : Am) := by
        first | assumption | exact StrB.mono (by assumption) (by omega) | (refine Fy ?_ ?_ ?_ <;> first | assumption | omega | (simp only [C3]; omega) | exact Bq (by assumption) (SessB.mono (by assumption) (by omega)) | (simp only [List.length_append, List.length_singleton]; omega))
       have e52 : 0 ≤ r4 ∧ r4 ≤ 3 := by
        first | omega | (simp only [Co, Cb]; omega) | (simp; omega)
       exact hk (m2 : Am) m2x1 r4 i h _ lm2x1 e51 e52 (s50.sel (.cons A8 (.cons A8 N8)))
      | succ j ih =>
       intro m0 z m2 m2x1 i h H hm hz lm2x1 hinv s0
       obtain ⟨m, rfl⟩ : ∃ m, m0 = m + 1 := ⟨m0 - 1, by omega⟩
       obtain ⟨⟨⟨hv1, hv2⟩, hv3⟩, hv4⟩ := hinv
       rw [Kt]
       try simp only [Bm, Bi, A4, A6, A9, Aw, Be, Cy]
       refine Hw ?_
       refine C1 (decide_eq_true (by omega)) ?_
       refine Af (o' := 1) rfl ?_
       refine Gd.bothE ?_ ?_
       ·refine Ay (c := m2x1) s0 Ci rfl ?_
        refine Bk (cs := [.sc (.string (⟨#[100]⟩)), .sc (.string (⟨#[103]⟩)), .sc (.string (⟨#[106]⟩)), .sc (.string (⟨#[109]⟩))]) rfl ?_
        refine Bl s0 fun i53 H s54 => ?_
        refine Vq hcode (by omega) (by omega) rfl s54 Ci (.here) fun z55a iq56 hq56 H mz55 sq56 => ?_
        have s57 := (sq56.pick A8).tail
        obtain ⟨z55, rfl, hz55⟩ := Hz (l := [⟨#[100]⟩, ⟨#[103]⟩, ⟨#[106]⟩, ⟨#[109]⟩]) (m := 1) mz55 (by decide)
        refine Gc rfl rfl ?_
        refine K4 _ (by omega) code hcode c iq56 hq56 z55 (by omega) (s57.pick (.here)) fun r58 r58x6 r58x7 r58x8 iq59 hq59 H lr58x6 lr58x7 lr58x8 hr58 sq59 => ?_
        have kr58 := hr58
        obtain ⟨⟨oar58, obr58, ocr58, odr58, oer58, ofr58⟩, wr58⟩ := kr58
        have gr58 := Hb hr58
        refine Bk (cs := [.sc (.string r58.fClient), .sc (.int .i64 r58.fBorn), .sc (.bool r58.fClean), .sc (.int .i64 r58.fConn), .sc (.int .i64 r58.fGen), .sc (.int .i64 r58.fO.fLast), r58x6, r58x7, r58x8]) (Ei (z' := [.sc (.string r58.fClient), .sc (.int .i64 r58.fBorn), .sc (.bool r58.fClean), .sc (.int .i64 r58.fConn), .sc (.int .i64 r58.fGen), .sc (.int .i64 r58.fO.fLast), r58x6, r58x7, r58x8]) (Ad (Aa rfl (Aa rfl (Aa rfl (Aa rfl (Aa rfl (Aa rfl (Aa lr58x6 (Aa lr58x7 (Aa lr58x8 rfl)))))))))) rfl (A7 rfl) rfl (rfl)) ?_
        refine Bl sq59 fun i60 H s61 => ?_
        refine Ib (cty := [9, 3, 4, 3, 3, 3, 113, 79, 53]) (e := (r58 : Cs)) s61 ⟨_, _, rfl, rfl, rfl, rfl⟩ Lf (.here) rfl (Aa rfl (Aa rfl (Aa rfl (Aa rfl (Aa rfl (Aa rfl (Aa lr58x6 (Aa lr58x7 (Aa lr58x8 rfl))))))))) (.sc (.sc (.sc (.sc (.sc (.sc (.own (.here) (.own (.here) (.own (.here) .nil))))))))) ⟨trivial, ⟨trivial, ⟨trivial, ⟨trivial, ⟨trivial, ⟨trivial, ⟨(Ff r58.fO.fFl), ⟨(Hv r58.fO.fQ), ⟨(Sk r58.fIn), trivial⟩⟩⟩⟩⟩⟩⟩⟩⟩ rfl (by first | omega | (simp only [List.length_append, List.length_singleton]; omega)) fun x62 H lx62 s63 => ?_
        refine Af (o' := 1) rfl ?_
        refine A3 (cs' := [.sc (.int .i64 m2.fHeld), x62]) s63 Ci (Ak lx62) rfl (A7 rfl) rfl fun H s64 => ?_
        refine Eo (by omega) (by omega) ?_
        have e65 : StrB 13 (⟨m2.fHeld, (m2.fL ++ [r58])⟩ : Am) ∧ (⟨m2.fHeld, (m2.fL ++ [r58])⟩ : Am).fL.length + j ≤ 13 := by
         first | exact ⟨⟨⟨by assumption, Bq (by assumption) (SessB.mono (by assumption) (by omega))⟩, by simp only [List.length_append, List.length_singleton]; omega⟩, by simp only [List.length_append, List.length_singleton]; omega⟩ | exact ⟨StrB.mono (by assumption) (by omega), by omega⟩
        exact ih m _ (⟨m2.fHeld, (m2.fL ++ [r58])⟩ : Am) x62 iq59 hq59 _ (by omega) (by omega) lx62 e65 (s64.sel (.cons A8 (.cons A8 (.cons (.here) (.cons (.here) .rest)))))
       ·refine Bk (cs := [.sc (.string (⟨#[100]⟩)), .sc (.string (⟨#[103]⟩)), .sc (.string (⟨#[106]⟩)), .sc (.string (⟨#[109]⟩))]) rfl ?_
        refine Bl s0 fun i66 H s67 => ?_
        refine Gd.bothE ?_ ?_
        ·refine Ay (c := m2x1) s67 Cz rfl ?_
         refine Vq hcode (by omega) (by omega) rfl s67 Ci (.here) fun z68a iq69 hq69 H mz68 sq69 => ?_
         have s70 := (sq69.pick A8).tail
         obtain ⟨z68, rfl, hz68⟩ := Hz (l := [⟨#[100]⟩, ⟨#[103]⟩, ⟨#[106]⟩, ⟨#[109]⟩]) (m := 1) mz68 (by decide)
         refine Gc rfl rfl ?_
         refine K4 _ (by omega) code hcode c iq69 hq69 z68 (by omega) (s70.pick (.here)) fun r71 r71x6 r71x7 r71x8 iq72 hq72 H lr71x6 lr71x7 lr71x8 hr71 sq72 => ?_
         have kr71 := hr71
         obtain ⟨⟨oar71, obr71, ocr71, odr71, oer71, ofr71⟩, wr71⟩ := kr71
         have gr71 := Hb hr71
         refine Bk (cs := [.sc (.string r71.fClient), .sc (.int .i64 r71.fBorn), .sc (.bool r71.fClean), .sc (.int .i64 r71.fConn), .sc (.int .i64 r71.fGen), .sc (.int .i64 r71.fO.fLast), r71x6, r71x7, r71x8]) (Ei (z' := [.sc (.string r71.fClient), .sc (.int .i64 r71.fBorn), .sc (.bool r71.fClean), .sc (.int .i64 r71.fConn), .sc (.int .i64 r71.fGen), .sc (.int .i64 r71.fO.fLast), r71x6, r71x7, r71x8]) (Ad (Aa rfl (Aa rfl (Aa rfl (Aa rfl (Aa rfl (Aa rfl (Aa lr71x6 (Aa lr71x7 (Aa lr71x8 rfl)))))))))) rfl (A7 rfl) rfl (rfl)) ?_
         refine Bl sq72 fun i73 H s74 => ?_
         refine Ib (cty := [9, 3, 4, 3, 3, 3, 113, 79, 53]) (e := (r71 : Cs)) s74 ⟨_, _, rfl, rfl, rfl, rfl⟩ Lf (.here) rfl (Aa rfl (Aa rfl (Aa rfl (Aa rfl (Aa rfl (Aa rfl (Aa lr71x6 (Aa lr71x7 (Aa lr71x8 rfl))))))))) (.sc (.sc (.sc (.sc (.sc (.sc (.own (.here) (.own (.here) (.own (.here) .nil))))))))) ⟨trivial, ⟨trivial, ⟨trivial, ⟨trivial, ⟨trivial, ⟨trivial, ⟨(Ff r71.fO.fFl), ⟨(Hv r71.fO.fQ), ⟨(Sk r71.fIn), trivial⟩⟩⟩⟩⟩⟩⟩⟩⟩ rfl (by first | omega | (simp only [List.length_append, List.length_singleton]; omega)) fun x75 H lx75 s76 => ?_
         refine Af (o' := 1) rfl ?_
         refine A3 (cs' := [.sc (.int .i64 m2.fHeld), x75]) s76 Ci (Ak lx75) rfl (A7 rfl) rfl fun H s77 => ?_
         refine Eo (by omega) (by omega) ?_
         have e78 : StrB 13 (⟨m2.fHeld, (m2.fL ++ [r71])⟩ : Am) ∧ (⟨m2.fHeld, (m2.fL ++ [r71])⟩ : Am).fL.length + j ≤ 13 := by
          first | exact ⟨⟨⟨by assumption, Bq (by assumption) (SessB.mono (by assumption) (by omega))⟩, by simp only [List.length_append, List.length_singleton]; omega⟩, by simp only [List.length_append, List.length_singleton]; omega⟩ | exact ⟨StrB.mono (by assumption) (by omega), by omega⟩
         exact ih m _ (⟨m2.fHeld, (m2.fL ++ [r71])⟩ : Am) x75 iq72 hq72 _ (by omega) (by omega) lx75 e78 (s77.sel (.cons A8 (.cons A8 (.cons (.here) (.cons (.here) .rest)))))
        ·refine Vq hcode (by omega) (by omega) rfl s67 Ci (.here) fun z79a iq80 hq80 H mz79 sq80 => ?_
         have s81 := (sq80.pick A8).tail
         obtain ⟨z79, rfl, hz79⟩ := Hz (l := [⟨#[100]⟩, ⟨#[103]⟩, ⟨#[106]⟩, ⟨#[109]⟩]) (m := 1) mz79 (by decide)
         refine Gd.bothE ?_ ?_
         ·refine Ay (c := m2x1) s81 Ci rfl ?_
          refine Gc rfl rfl ?_
          refine K4 _ (by omega) code hcode c iq80 hq80 z79 (by omega) (s81.pick (.here)) fun r82 r82x6 r82x7 r82x8 iq83 hq83 H lr82x6 lr82x7 lr82x8 hr82 sq83 => ?_
          have kr82 := hr82
          obtain ⟨⟨oar82, obr82, ocr82, odr82, oer82, ofr82⟩, wr82⟩ := kr82
          have gr82 := Hb hr82
          refine Bk (cs := [.sc (.string r82.fClient), .sc (.int .i64 r82.fBorn), .sc (.bool r82.fClean), .sc (.int .i64 r82.fConn), .sc (.int .i64 r82.fGen), .sc (.int .i64 r82.fO.fLast), r82x6, r82x7, r82x8]) (Ei (z' := [.sc (.string r82.fClient), .sc (.int .i64 r82.fBorn), .sc (.bool r82.fClean), .sc (.int .i64 r82.fConn), .sc (.int .i64 r82.fGen), .sc (.int .i64 r82.fO.fLast), r82x6, r82x7, r82x8]) (Ad (Aa rfl (Aa rfl (Aa rfl (Aa rfl (Aa rfl (Aa rfl (Aa lr82x6 (Aa lr82x7 (Aa lr82x8 rfl)))))))))) rfl (A7 rfl) rfl (rfl)) ?_
          refine Bl sq83 fun i84 H s85 => ?_
          refine Ib (cty := [9, 3, 4, 3, 3, 3, 113, 79, 53]) (e := (r82 : Cs)) s85 ⟨_, _, rfl, rfl, rfl, rfl⟩ Lf (.here) rfl (Aa rfl (Aa rfl (Aa rfl (Aa rfl (Aa rfl (Aa rfl (Aa lr82x6 (Aa lr82x7 (Aa lr82x8 rfl))))))))) (.sc (.sc (.sc (.sc (.sc (.sc (.own (.here) (.own (.here) (.own (.here) .nil))))))))) ⟨trivial, ⟨trivial, ⟨trivial, ⟨trivial, ⟨trivial, ⟨trivial, ⟨(Ff r82.fO.fFl), ⟨(Hv r82.fO.fQ), ⟨(Sk r82.fIn), trivial⟩⟩⟩⟩⟩⟩⟩⟩⟩ rfl (by first | omega | (simp only [List.length_append, List.length_singleton]; omega)) fun x86 H lx86 s87 => ?_
          refine Af (o' := 1) rfl ?_
          refine A3 (cs' := [.sc (.int .i64 m2.fHeld), x86]) s87 Ci (Ak lx86) rfl (A7 rfl) rfl fun H s88 => ?_
          refine Eo (by omega) (by omega) ?_
          have e89 : StrB 13 (⟨m2.fHeld, (m2.fL ++ [r82])⟩ : Am) ∧ (⟨m2.fHeld, (m2.fL ++ [r82])⟩ : Am).fL.length + j ≤ 13 := by
           first | exact ⟨⟨⟨by assumption, Bq (by assumption) (SessB.mono (by assumption) (by omega))⟩, by simp only [List.length_append, List.length_singleton]; omega⟩, by simp only [List.length_append, List.length_singleton]; omega⟩ | exact ⟨StrB.mono (by assumption) (by omega), by omega⟩
          exact ih m _ (⟨m2.fHeld, (m2.fL ++ [r82])⟩ : Am) x86 iq83 hq83 _ (by omega) (by omega) lx86 e89 (s88.sel (.cons A8 (.cons A8 (.cons (.here) (.cons (.here) .rest)))))
         ·refine Gc rfl rfl ?_
          refine K4 _ (by omega) code hcode c iq80 hq80 z79 (by omega) (s81.pick (.here)) fun r90 r90x6 r90x7 r90x8 iq91 hq91 H lr90x6 lr90x7 lr90x8 hr90 sq91 => ?_
          have kr90 := hr90
          obtain ⟨⟨oar90, obr90, ocr90, odr90, oer90, ofr90⟩, wr90⟩ := kr90
          have gr90 := Hb hr90
          refine Ay (c := m2x1) sq91 Lf rfl ?_
          refine Bk (cs := [.sc (.string r90.fClient), .sc (.int .i64 r90.fBorn), .sc (.bool r90.fClean), .sc (.int .i64 r90.fConn), .sc (.int .i64 r90.fGen), .sc (.int .i64 r90.fO.fLast), r90x6, r90x7, r90x8]) (Ei (z' := [.sc (.string r90.fClient), .sc (.int .i64 r90.fBorn), .sc (.bool r90.fClean), .sc (.int .i64 r90.fConn), .sc (.int .i64 r90.fGen), .sc (.int .i64 r90.fO.fLast), r90x6, r90x7, r90x8]) (Ad (Aa rfl (Aa rfl (Aa rfl (Aa rfl (Aa rfl (Aa rfl (Aa lr90x6 (Aa lr90x7 (Aa lr90x8 rfl)))))))))) rfl (A7 rfl) rfl (rfl)) ?_
          refine Bl sq91 fun i92 H s93 => ?_
          refine Ib (cty := [9, 3, 4, 3, 3, 3, 113, 79, 53]) (e := (r90 : Cs)) s93 ⟨_, _, rfl, rfl, rfl, rfl⟩ Lf (.here) rfl (Aa rfl (Aa rfl (Aa rfl (Aa rfl (Aa rfl (Aa rfl (Aa lr90x6 (Aa lr90x7 (Aa lr90x8 rfl))))))))) (.sc (.sc (.sc (.sc (.sc (.sc (.own (.here) (.own (.here) (.own (.here) .nil))))))))) ⟨trivial, ⟨trivial, ⟨trivial, ⟨trivial, ⟨trivial, ⟨trivial, ⟨(Ff r90.fO.fFl), ⟨(Hv r90.fO.fQ), ⟨(Sk r90.fIn), trivial⟩⟩⟩⟩⟩⟩⟩⟩⟩ rfl (by first | omega | (simp only [List.length_append, List.length_singleton]; omega)) fun x94 H lx94 s95 => ?_
          refine Af (o' := 1) rfl ?_
          refine A3 (cs' := [.sc (.int .i64 m2.fHeld), x94]) s95 Ci (Ak lx94) rfl (A7 rfl) rfl fun H s96 => ?_
          refine Eo (by omega) (by omega) ?_
          have e97 : StrB 13 (⟨m2.fHeld, (m2.fL ++ [r90])⟩ : Am) ∧ (⟨m2.fHeld, (m2.fL ++ [r90])⟩ : Am).fL.length + j ≤ 13 := by
           first | exact ⟨⟨⟨by assumption, Bq (by assumption) (SessB.mono (by assumption) (by omega))⟩, by simp only [List.length_append, List.length_singleton]; omega⟩, by simp only [List.length_append, List.length_singleton]; omega⟩ | exact ⟨StrB.mono (by assumption) (by omega), by omega⟩
          exact ih m _ (⟨m2.fHeld, (m2.fL ++ [r90])⟩ : Am) x94 iq91 hq91 _ (by omega) (by omega) lx94 e97 (s96.sel (.cons A8 (.cons A8 (.cons (.here) (.cons (.here) .rest)))))
     have e98 : StrB 13 (r3 : Am) ∧ (r3 : Am).fL.length + (max ((4 : Int)) 0 - 0).toNat ≤ 13 := by
      first | exact ⟨⟨⟨by assumption, Bq (by assumption) (SessB.mono (by assumption) (by omega))⟩, by simp only [List.length_append, List.length_singleton]; omega⟩, by simp only [List.length_append, List.length_singleton]; omega⟩ | exact ⟨StrB.mono (by assumption) (by omega), by omega⟩
     exact lp49 (max ((4 : Int)) 0 - 0).toNat _ _ (r3 : Am) r3x1 iq10 hq10 _ (by omega) (by omega) lr3x1 e98 (sq10.sel (.cons Ci (.cons (.here) (.cons (.here) (.cons (.here) .rest)))))
    ·refine B3 h48 ?_
     refine Aj sq10 A8 rfl ?_
     refine A3 (cs' := [.sc (.int .i64 r3.fHeld), r3x1]) sq10 Cz (Ad (Aa rfl (Aa lr3x1 rfl))) rfl (A7 rfl) rfl fun H s99 => ?_
     refine Aj s99 (.here) rfl ?_
     have e100 : StrB 13 (r3 : Am) := by
      first | assumption | exact StrB.mono (by assumption) (by omega) | (refine Fy ?_ ?_ ?_ <;> first | assumption | omega | (simp only [C3]; omega) | exact Bq (by assumption) (SessB.mono (by assumption) (by omega)) | (simp only [List.length_append, List.length_singleton]; omega))
     have e101 : 0 ≤ r4 ∧ r4 ≤ 3 := by
      first | omega | (simp only [Co, Cb]; omega) | (simp; omega)
     exact hk (r3 : Am) r3x1 r4 iq10 hq10 _ lr3x1 e100 e101 (s99.sel (.cons Cz (.cons A8 N8)))
theorem AaK (n : Nat) (hn : 1048576 < n) (code : ByteArray) (hcode : code.size ≤ 1048576)   {β : Type} {r : Option β} {KH : KO β} {H : Ac} {L : List Ck} (s0 : Sep H (L)) (hk : ∀ (r0 : Am) (r0x1 : AV) (r1 : Int) (H' : Ac), (Aq r0x1 = true) → (StrB 13 r0) → (-1 ≤ r1 ∧ r1 ≤ 8) → Sep H' (.own r0x1 24 (Al A2 r0.fL) :: L) → Gd (· = r) (KH (.tup [.agg [.sc (.int .i64 r0.fHeld), r0x1], .sc (.int .i64 r1)]) H')) : Gd (· = r) (Dc E0 (n + 24) β 7 [Bj code] H fun x H => KH x H) := by
 rw [AhV, f7]
 try simp only [Cj, Bi, A4, A6, A9, Aw, Fc]
 refine C8 s0 fun i1 H s2 => ?_
 refine AhW hcode (by omega) s2 fun c3 hq4 H sq4 => ?_
 refine Gc rfl rfl ?_
 refine Aas _ (by omega) code hcode c3 0 hq4   (sq4.pick (.here)) fun r5 r5x1 r6 iq7 hq7 H lr5x1 hr5 hr6 sq7 => ?_
 have kr5 := hr5
 obtain ⟨⟨oar5, obr5⟩, wr5⟩ := kr5
 have uar5 := oar5
 simp only [C3] at uar5
 have gr5 := Mp hr5
 refine Cn (v := .agg [.sc (.int .i64 r5.fHeld), r5x1]) rfl ?_
 refine Cn (v := .sc (.int .i64 r6)) rfl ?_
 refine C8 sq7 fun i8 H s9 => ?_
 refine A3 (cs' := [.sc (.int .i64 r5.fHeld), r5x1]) s9 (.here) (Ad (Aa rfl (Aa lr5x1 rfl))) rfl (A7 rfl) rfl fun H s10 => ?_
 refine Qj hcode (by omega) s10 Ci fun b11 iq12 hq12 H sq12 => ?_
 refine F3 ?_
 refine Ai (b11) (fun h13 => ?_) (fun h13 => ?_)
 ·refine C1 h13 ?_
  refine Af (o' := 0) rfl ?_
  refine A3 (cs' := [.sc (.int .i64 (-1)), r5x1]) sq12 A8 (Ak rfl) rfl (A7 rfl) rfl fun H s14 => ?_
  refine Gd.bothE ?_ ?_
  ·refine Aj s14 (.here) rfl ?_
   refine D7 (m := 10) hcode (by omega) s14 A8 fun z15 iq16 hq16 H hz15 sq16 => ?_
   replace hz15 : 0 ≤ z15 ∧ z15 < 10 := by omega
   refine K7 (by omega) (by omega) ?_
   refine A3 (cs' := [.sc (.int .i64 (-1)), r5x1]) sq16 Cz (Ad (Aa rfl (Aa lr5x1 rfl))) rfl (A7 rfl) rfl fun H s17 => ?_
   refine Aj s17 (.here) rfl ?_
   have e18 : StrB 13 (⟨(-1), r5.fL⟩ : Am) := by
    first | assumption | exact StrB.mono (by assumption) (by omega) | (refine Fy ?_ ?_ ?_ <;> first | assumption | omega | (simp only [C3]; omega) | exact Bq (by assumption) (SessB.mono (by assumption) (by omega)) | (simp only [List.length_append, List.length_singleton]; omega))
   have e19 : -1 ≤ (z15 - 1) ∧ (z15 - 1) ≤ 8 := by
    first | omega | (simp only [Co, Cb]; omega) | (simp; omega)
   exact hk (⟨(-1), r5.fL⟩ : Am) r5x1 (z15 - 1) _ lr5x1 e18 e19 (s17.sel (.cons Cz zS3))
  ·refine D7 (m := 10) hcode (by omega) s14 A8 fun z20 iq21 hq21 H hz20 sq21 => ?_
   replace hz20 : 0 ≤ z20 ∧ z20 < 10 := by omega
   refine Aj sq21 A8 rfl ?_
   refine K7 (by omega) (by omega) ?_
   refine A3 (cs' := [.sc (.int .i64 (-1)), r5x1]) sq21 Cz (Ad (Aa rfl (Aa lr5x1 rfl))) rfl (A7 rfl) rfl fun H s22 => ?_
   refine Aj s22 (.here) rfl ?_
   have e23 : StrB 13 (⟨(-1), r5.fL⟩ : Am) := by
    first | assumption | exact StrB.mono (by assumption) (by omega) | (refine Fy ?_ ?_ ?_ <;> first | assumption | omega | (simp only [C3]; omega) | exact Bq (by assumption) (SessB.mono (by assumption) (by omega)) | (simp only [List.length_append, List.length_singleton]; omega))
   have e24 : -1 ≤ (z20 - 1) ∧ (z20 - 1) ≤ 8 := by
    first | omega | (simp only [Co, Cb]; omega) | (simp; omega)
   exact hk (⟨(-1), r5.fL⟩ : Am) r5x1 (z20 - 1) _ lr5x1 e23 e24 (s22.sel (.cons Cz zS3))
 ·refine B3 h13 ?_
  refine Gd.bothE ?_ ?_
  ·refine Aj sq12 A8 rfl ?_
   refine D7 (m := 10) hcode (by omega) sq12 (.here) fun z25 iq26 hq26 H hz25 sq26 => ?_
   replace hz25 : 0 ≤ z25 ∧ z25 < 10 := by omega
   refine K7 (by omega) (by omega) ?_
   refine A3 (cs' := [.sc (.int .i64 r5.fHeld), r5x1]) sq26 Cz (Ad (Aa rfl (Aa lr5x1 rfl))) rfl (A7 rfl) rfl fun H s27 => ?_
   refine Aj s27 (.here) rfl ?_
   have e28 : StrB 13 (r5 : Am) := by
    first | assumption | exact StrB.mono (by assumption) (by omega) | (refine Fy ?_ ?_ ?_ <;> first | assumption | omega | (simp only [C3]; omega) | exact Bq (by assumption) (SessB.mono (by assumption) (by omega)) | (simp only [List.length_append, List.length_singleton]; omega))
   have e29 : -1 ≤ (z25 - 1) ∧ (z25 - 1) ≤ 8 := by
    first | omega | (simp only [Co, Cb]; omega) | (simp; omega)
   exact hk (r5 : Am) r5x1 (z25 - 1) _ lr5x1 e28 e29 (s27.sel (.cons Cz zS3))
  ·refine D7 (m := 10) hcode (by omega) sq12 (.here) fun z30 iq31 hq31 H hz30 sq31 => ?_
   replace hz30 : 0 ≤ z30 ∧ z30 < 10 := by omega
   refine Aj sq31 A8 rfl ?_
   refine K7 (by omega) (by omega) ?_
   refine A3 (cs' := [.sc (.int .i64 r5.fHeld), r5x1]) sq31 Cz (Ad (Aa rfl (Aa lr5x1 rfl))) rfl (A7 rfl) rfl fun H s32 => ?_
   refine Aj s32 (.here) rfl ?_
   have e33 : StrB 13 (r5 : Am) := by
    first | assumption | exact StrB.mono (by assumption) (by omega) | (refine Fy ?_ ?_ ?_ <;> first | assumption | omega | (simp only [C3]; omega) | exact Bq (by assumption) (SessB.mono (by assumption) (by omega)) | (simp only [List.length_append, List.length_singleton]; omega))
   have e34 : -1 ≤ (z30 - 1) ∧ (z30 - 1) ≤ 8 := by
    first | omega | (simp only [Co, Cb]; omega) | (simp; omega)
   exact hk (r5 : Am) r5x1 (z30 - 1) _ lr5x1 e33 e34 (s32.sel (.cons Cz zS3))
theorem V6 (n : Nat) (hn : 1048576 < n) (code : ByteArray) (hcode : code.size ≤ 1048576)   {β : Type} {r : Option β} {KH : KO β} {H : Ac} {L : List Ck} (s0 : Sep H (L)) (hk : ∀ (r0 : Am) (r0x1 : AV) (r1 : Int) (H' : Ac), (Aq r0x1 = true) → (StrB 13 r0) → (-9223372036854775808 ≤ r1 ∧ r1 ≤ 9223372036854775807) → Sep H' (.own r0x1 24 (Al A2 r0.fL) :: L) → Gd (· = r) (KH (.tup [.agg [.sc (.int .i64 r0.fHeld), r0x1], .sc (.int .i64 r1)]) H')) : Gd (· = r) (Dc E0 (n + 24) β 9 [Bj code] H fun x H => KH x H) := by
 rw [AhJ, f9]
 try simp only [Cj, Bm, Bi, A4, A6, Be, Fc]
 refine C8 s0 fun i1 H s2 => ?_
 refine AhW hcode (by omega) s2 fun c3 hq4 H sq4 => ?_
 refine Gc rfl rfl ?_
 refine Aas _ (by omega) code hcode c3 0 hq4   (sq4.pick (.here)) fun r5 r5x1 r6 iq7 hq7 H lr5x1 hr5 hr6 sq7 => ?_
 have kr5 := hr5
 obtain ⟨⟨oar5, obr5⟩, wr5⟩ := kr5
 have uar5 := oar5
 simp only [C3] at uar5
 have gr5 := Mp hr5
 refine Cn (v := .agg [.sc (.int .i64 r5.fHeld), r5x1]) rfl ?_
 refine Cn (v := .sc (.int .i64 r6)) rfl ?_
 refine C8 sq7 fun i8 H s9 => ?_
 refine A3 (cs' := [.sc (.int .i64 r5.fHeld), r5x1]) s9 (.here) (Ad (Aa rfl (Aa lr5x1 rfl))) rfl (A7 rfl) rfl fun H s10 => ?_
 refine Af (o' := 0) rfl ?_
 refine Ay (c := .sc (.int .i64 r5.fHeld)) s10 (.here) rfl ?_
 refine Af (o' := 0) rfl ?_
 refine Ay (c := .sc (.int .i64 r5.fHeld)) s10 (.here) rfl ?_
 refine Af (o' := 0) rfl ?_
 refine Ay (c := .sc (.int .i64 r5.fHeld)) s10 (.here) rfl ?_
 refine Gd.bothE ?_ ?_
 ·refine Aj s10 (.here) rfl ?_
  refine Bk (cs := [.sc (.int .i64 r5.fHeld), .sc (.int .i64 r5.fHeld), .sc (.int .i64 r5.fHeld), .sc (.int .i64 0), .sc (.int .i64 3), .sc (.int .i64 8), .sc (.int .i64 (-1))]) rfl ?_
  refine Bl s10 fun i11 H s12 => ?_
  refine Dl hcode (by omega) (by omega) rfl s12 Cz (.here) fun z13a iq14 hq14 H mz13 sq14 => ?_
  have s15 := (sq14.pick A8).tail
  obtain ⟨z13, rfl, hz13⟩ := A5 (l := [r5.fHeld, r5.fHeld, r5.fHeld, 0, 3, 8, (-1)]) (lo := -9223372036854775808) (hi := 9223372036854775807) mz13 (by simp only [List.mem_cons, List.not_mem_nil, or_false, forall_eq_or_imp, forall_eq]; omega)
  refine A3 (cs' := [.sc (.int .i64 r5.fHeld), r5x1]) s15 Cz (Ad (Aa rfl (Aa lr5x1 rfl))) rfl (A7 rfl) rfl fun H s16 => ?_
  refine Aj s16 (.here) rfl ?_
  have e17 : StrB 13 (r5 : Am) := by
   first | assumption | exact StrB.mono (by assumption) (by omega) | (refine Fy ?_ ?_ ?_ <;> first | assumption | omega | (simp only [C3]; omega) | exact Bq (by assumption) (SessB.mono (by assumption) (by omega)) | (simp only [List.length_append, List.length_singleton]; omega))
  have e18 : -9223372036854775808 ≤ z13 ∧ z13 ≤ 9223372036854775807 := by
   first | omega | (simp only [Co, Cb]; omega) | (simp; omega)
  exact hk (r5 : Am) r5x1 z13 _ lr5x1 e17 e18 (s16.sel (.cons Cz zS3))
 ·refine Bk (cs := [.sc (.int .i64 r5.fHeld), .sc (.int .i64 r5.fHeld), .sc (.int .i64 r5.fHeld), .sc (.int .i64 0), .sc (.int .i64 3), .sc (.int .i64 8), .sc (.int .i64 (-1))]) rfl ?_
  refine Bl s10 fun i19 H s20 => ?_
  refine Gd.bothE ?_ ?_
  ·refine Aj s20 A8 rfl ?_
   refine Dl hcode (by omega) (by omega) rfl s20 Cz (.here) fun z21a iq22 hq22 H mz21 sq22 => ?_
   have s23 := (sq22.pick A8).tail
   obtain ⟨z21, rfl, hz21⟩ := A5 (l := [r5.fHeld, r5.fHeld, r5.fHeld, 0, 3, 8, (-1)]) (lo := -9223372036854775808) (hi := 9223372036854775807) mz21 (by simp only [List.mem_cons, List.not_mem_nil, or_false, forall_eq_or_imp, forall_eq]; omega)
   refine A3 (cs' := [.sc (.int .i64 r5.fHeld), r5x1]) s23 Cz (Ad (Aa rfl (Aa lr5x1 rfl))) rfl (A7 rfl) rfl fun H s24 => ?_
   refine Aj s24 (.here) rfl ?_
   have e25 : StrB 13 (r5 : Am) := by
    first | assumption | exact StrB.mono (by assumption) (by omega) | (refine Fy ?_ ?_ ?_ <;> first | assumption | omega | (simp only [C3]; omega) | exact Bq (by assumption) (SessB.mono (by assumption) (by omega)) | (simp only [List.length_append, List.length_singleton]; omega))
   have e26 : -9223372036854775808 ≤ z21 ∧ z21 ≤ 9223372036854775807 := by
    first | omega | (simp only [Co, Cb]; omega) | (simp; omega)
   exact hk (r5 : Am) r5x1 z21 _ lr5x1 e25 e26 (s24.sel (.cons Cz zS3))
  ·refine Dl hcode (by omega) (by omega) rfl s20 Cz (.here) fun z27a iq28 hq28 H mz27 sq28 => ?_
   have s29 := (sq28.pick A8).tail
   obtain ⟨z27, rfl, hz27⟩ := A5 (l := [r5.fHeld, r5.fHeld, r5.fHeld, 0, 3, 8, (-1)]) (lo := -9223372036854775808) (hi := 9223372036854775807) mz27 (by simp only [List.mem_cons, List.not_mem_nil, or_false, forall_eq_or_imp, forall_eq]; omega)
   refine Aj s29 A8 rfl ?_
   refine A3 (cs' := [.sc (.int .i64 r5.fHeld), r5x1]) s29 Cz (Ad (Aa rfl (Aa lr5x1 rfl))) rfl (A7 rfl) rfl fun H s30 => ?_
   refine Aj s30 (.here) rfl ?_
   have e31 : StrB 13 (r5 : Am) := by
    first | assumption | exact StrB.mono (by assumption) (by omega) | (refine Fy ?_ ?_ ?_ <;> first | assumption | omega | (simp only [C3]; omega) | exact Bq (by assumption) (SessB.mono (by assumption) (by omega)) | (simp only [List.length_append, List.length_singleton]; omega))
   have e32 : -9223372036854775808 ≤ z27 ∧ z27 ≤ 9223372036854775807 := by
    first | omega | (simp only [Co, Cb]; omega) | (simp; omega)
   exact hk (r5 : Am) r5x1 z27 _ lr5x1 e31 e32 (s30.sel (.cons Cz zS3))
end
section
open Go
theorem Aih (n ty : Nat) (s : ByteArray) : Di E0 (n + 1) ty 6 [Bj s] = some (.sc (.bool (decide ((1048576 : Int) < (s.size : Nat))))) := by
 rw [Bu, AhD, f6]
 simp only [Ca, A9]
 refine Do ?_
 rfl
theorem atX (n ty : Nat) (s : ByteArray) (hs : s.size ≤ 1048576) : ∃ z : Int, (0 ≤ z ∧ z ≤ 255) ∧ Di E0 (n + 1) ty 11 [Bj s, .sc (.int .i64 2)] = some (.sc (.int .i64 z)) := by
 by_cases h : (2 : Int) < (s.size : Nat)
 ·have hb := AbM s 2
  refine ⟨bAt s 2, by omega, ?_⟩
  rw [Bu, AdC, f11]
  refine Iu (G := (· = _)) ?_
  simp only [De, Cj, Bm, Bi, A4, A6, A9, Ep, Er, Ew, Aw, Bx, Ch, Ca, Dx, Cc, Fn, D1, Dj, Be, Fm, Cy, O2, Eg, Or, E8, Nn, Fc, N6, M1, Rw, Mr, Pc]
  refine Ox ?_
  refine Hw ?_
  refine C1 (decide_eq_true h) ?_
  refine Ae8 (by omega) h fun rest => ?_
  refine Rn (c := .sc (.int .u8 (bAt s 2))) rfl ?_
  refine Ags (Fe _ (by omega) (by omega)) ?_
  rfl
 ·refine ⟨(2 * 31 + ((s.size : Nat) : Int) * 7) % 256, by omega, ?_⟩
  rw [Bu, AdC, f11]
  refine Iu (G := (· = _)) ?_
  simp only [De, Cj, Bm, Bi, A4, A6, A9, Ep, Er, Ew, Aw, Bx, Ch, Ca, Dx, Cc, Fn, D1, Dj, Be, Fm, Cy, O2, Eg, Or, E8, Nn, Fc, N6, M1, Rw, Mr, Pc]
  refine Ox ?_
  refine Hw ?_
  refine B3 (decide_eq_false h) ?_
  refine Aa0 (by omega) (by omega) ?_
  refine Ox ?_
  refine Aa0 (by omega) (by omega) ?_
  refine Eo (by omega) (by omega) ?_
  refine Ph (v := .sc (.int .i64 ((2 * 31 + ((s.size : Nat) : Int) * 7) % 256))) (fun k => ?_) ?_
  ·show k (.sc (.int .i64 (Int.tmod (2 * 31 + ((s.size : Nat) : Int) * 7) 256))) = _
   rw [Int.tmod_eq_emod_of_nonneg (by omega)]
  rfl
theorem Wb {s : Am} {t : Int} (h : Ae s t = true) : s.fHeld = -1 ∧ 0 ≤ t ∧ t ≤ 7 := by
 simp only [Ae, Av, Bool.and_eq_true, decide_eq_true_eq] at h
 omega
theorem Dp {s : Am} {t : Int} (h : Ae s t = true) : (As s t).fHeld = t := by
 show (if Ae s t then t else s.fHeld) = t
 rw [if_pos h]
theorem Me {s : Am} {t o : Int} (h : Ae s t = true) : Ae (As s t) o = false := by
 have h1 := Wb h
 have h2 := Dp h
 unfold Ae
 rw [h2, decide_eq_false (by omega : ¬ t = -1)]
 rfl
theorem Ha {s : Am} {t : Int} (h : Ae s t = true) : Ab (As s t) t = true := by
 have h1 := Wb h
 have h2 := Dp h
 unfold Ab Av
 rw [h2]
 simp only [decide_true, Bool.true_and, Bool.and_eq_true, decide_eq_true_eq]
 omega
theorem H6 {s : Am} {t o : Int} (h : Ae s t = true) (ho : o ≠ t) : Ab (As s t) o = false := by
 have h2 := Dp h
 unfold Ab
 rw [h2, decide_eq_false (fun e => ho e.symm)]
 rfl
theorem Gm {s : Am} {t : Int} (h : Ae s t = true) : (A1 (As s t) t).fHeld = -1 := by
 show (if Ab (As s t) t then -1 else (As s t).fHeld) = -1
 rw [if_pos (Ha h)]
theorem Bn {s : Am} {t : Int} (h : Ae s t = false) : (As s t).fHeld = s.fHeld := by
 show (if Ae s t then t else s.fHeld) = s.fHeld
 rw [if_neg (by rw [h]; decide)]
theorem N7 {b : Nat} {s : Am} {t : Int} (h : StrB b s) (ht : C3 t) : StrB b (As s t) := by
 refine ⟨⟨?_, h.1.2⟩, h.2⟩
 show C3 (if Ae s t then t else s.fHeld)
 split
 ·exact ht
 ·exact h.1.1
theorem J8 {b : Nat} {s : Am} {t : Int} (h : StrB b s) : StrB b (A1 s t) := by
 refine ⟨⟨?_, h.1.2⟩, h.2⟩
 show C3 (if Ab s t then -1 else s.fHeld)
 split
 ·constructor <;> decide
 ·exact h.1.1
theorem Wi (n : Nat) (hn : 1048576 < n) (code : ByteArray) (k0 : Jo code) : Di E0 (n + 34) 4 3 [Bj code] = some (.sc (.bool true)) := by
 rw [Bu, Aia, f3]
 refine Iu (G := (· = some (.sc (.bool true)))) ?_
 simp only [De, Cj, Bm, Bi, A4, A6, A9, Ep, Er, Ew, Aw, Bx, Ch, Ca, Dx, Cc, Fn, D1, Dj, Be, Fm, Cy, O2, Eg, Or, E8, Nn, Fc, N6, M1, Rw, Mr, Pc]
 have s0 : Sep [] [] := Kd
 refine F6 (v := .bool (decide ((1048576 : Int) < (code.size : Nat)))) s0 rfl (.cons .ro .nil) (Aih (n + 32) _ code) ?_
 by_cases hcode : code.size ≤ 1048576
 ·refine B3 (decide_eq_false (by omega)) ?_
  refine Gc rfl rfl ?_
  refine AaK _ (by omega) code hcode   s0 fun r1 r1x1 r2 H lr1x1 hr1 hr2 s3 => ?_
  have kr1 := hr1
  obtain ⟨⟨oar1, obr1⟩, wr1⟩ := kr1
  have uar1 := oar1
  simp only [C3] at uar1
  have gr1 := Mp hr1
  refine Cn (v := .agg [.sc (.int .i64 r1.fHeld), r1x1]) rfl ?_
  refine Cn (v := .sc (.int .i64 r2)) rfl ?_
  refine C8 s3 fun i4 H s5 => ?_
  refine A3 (cs' := [.sc (.int .i64 r1.fHeld), r1x1]) s5 (.here) (Ad (Aa rfl (Aa lr1x1 rfl))) rfl (A7 rfl) rfl fun H s6 => ?_
  refine Aj s6 (.here) rfl ?_
  have hb7 : StrB 13 (As r1 r2) := N7 hr1 (by simp only [C3]; omega)
  have c8 := Ho (n + 26) (by omega) r1 r2 (hr1.ok (by decide)) (by simp only [C3]; omega) (Nat.le_trans hr1.wt (by decide))
  refine Es s6 rfl (.agg (.cons .sc (.cons (.own (by decide) A8) .nil)) (.cons .sc .nil)) (c8) rfl (Ek ⟨_, rfl, rfl⟩ (Bz (D3 (ty := 24) rfl (Ec ((As r1 r2).fL)) Cp)) (Bz Cp)) ?_
  rintro _ _ H ⟨_, _, _, _, rfl, rfl, ⟨_, rfl, ⟨x9, _, _, lx9, rfl, rfl, ⟨rfl, rfl⟩⟩⟩, ⟨_, rfl, ⟨rfl, rfl⟩⟩⟩ s10
  simp only [List.nil_append, List.cons_append] at s10
  refine Cn (v := .agg [.sc (.int .i64 ((As r1 r2).fHeld)), x9]) rfl ?_
  refine Cn (v := .sc (.bool (Ae r1 r2))) rfl ?_
  refine C8 s10 fun i11 H s12 => ?_
  refine A3 (cs' := [.sc (.int .i64 ((As r1 r2).fHeld)), x9]) s12 (.here) (Ad (Aa rfl (Aa lx9 rfl))) rfl (A7 rfl) rfl fun H s13 => ?_
  refine Gc rfl rfl ?_
  refine V6 _ (by omega) code hcode   s13 fun r14 r14x1 r15 H lr14x1 hr14 hr15 s16 => ?_
  have kr14 := hr14
  obtain ⟨⟨oar14, obr14⟩, wr14⟩ := kr14
  have uar14 := oar14
  simp only [C3] at uar14
  have gr14 := Mp hr14
  refine Cn (v := .agg [.sc (.int .i64 r14.fHeld), r14x1]) rfl ?_
  refine Cn (v := .sc (.int .i64 r15)) rfl ?_
  refine C8 s16 fun i17 H s18 => ?_
  refine A3 (cs' := [.sc (.int .i64 r14.fHeld), r14x1]) s18 (.here) (Ad (Aa rfl (Aa lr14x1 rfl))) rfl (A7 rfl) rfl fun H s19 => ?_
  refine Aj s19 (.here) rfl ?_
  have hb20 : StrB 13 (A1 r14 r15) := J8 hr14
  have c21 := Gn (n + 26) (by omega) r14 r15 (hr14.ok (by decide)) (by simp only [C3]; omega) (Nat.le_trans hr14.wt (by decide))
  refine Es s19 rfl (.agg (.cons .sc (.cons (.own (by decide) A8) .nil)) (.cons .sc .nil)) (c21) rfl (Ek ⟨_, rfl, rfl⟩ (Bz (D3 (ty := 24) rfl (Ec ((A1 r14 r15).fL)) Cp)) (Bz Cp)) ?_
  rintro _ _ H ⟨_, _, _, _, rfl, rfl, ⟨_, rfl, ⟨x22, _, _, lx22, rfl, rfl, ⟨rfl, rfl⟩⟩⟩, ⟨_, rfl, ⟨rfl, rfl⟩⟩⟩ s23
  simp only [List.nil_append, List.cons_append] at s23
  refine Cn (v := .agg [.sc (.int .i64 ((A1 r14 r15).fHeld)), x22]) rfl ?_
  refine Cn (v := .sc (.bool (Ab r14 r15))) rfl ?_
  refine C8 s23 fun i24 H s25 => ?_
  refine A3 (cs' := [.sc (.int .i64 ((A1 r14 r15).fHeld)), x22]) s25 (.here) (Ad (Aa rfl (Aa lx22 rfl))) rfl (A7 rfl) rfl fun H s26 => ?_
  refine Af (o' := 0) rfl ?_
  refine Ay (c := .sc (.int .i64 r1.fHeld)) s26 Q0 rfl ?_
  refine Bv ?_
  refine Ai ((decide (r1.fHeld = (-1)))) (fun h27 => ?_) (fun h27 => ?_)
  ·refine Ag h27 ?_
   refine Ag h27 ?_
   refine Aaq ?_
   refine D9 h27 ?_
   refine Ai ((decide (0 ≤ r2))) (fun h28 => ?_) (fun h28 => ?_)
   ·refine Ag h28 ?_
    refine Ag h28 ?_
    refine Hw ?_
    refine D9 h28 ?_
    refine I7 (v := .sc (.bool (!((Ae r1 r2) == (decide (r2 < 8)))))) (fun k => rfl) ?_
    refine Ag (nF (by (try clear tlJ); rw [beq_iff_eq, Bool.eq_iff_iff]; simp only [Ae, Ab, Av, Bool.and_eq_true, decide_eq_true_eq, decide_eq_false_iff_not, Bool.false_eq_true, iff_false] at *; omega)) ?_
    refine Ag (nF (by (try clear tlJ); rw [beq_iff_eq, Bool.eq_iff_iff]; simp only [Ae, Ab, Av, Bool.and_eq_true, decide_eq_true_eq, decide_eq_false_iff_not, Bool.false_eq_true, iff_false] at *; omega)) ?_
    refine Af (o' := 0) rfl ?_
    refine Ag (nF (by (try clear tlJ); rw [beq_iff_eq, Bool.eq_iff_iff]; simp only [Ae, Ab, Av, Bool.and_eq_true, decide_eq_true_eq, decide_eq_false_iff_not, Bool.false_eq_true, iff_false] at *; omega)) ?_
    refine Ay (c := .sc (.int .i64 r14.fHeld)) s26 Ci rfl ?_
    refine Ag (nF (by (try clear tlJ); rw [beq_iff_eq, Bool.eq_iff_iff]; simp only [Ae, Ab, Av, Bool.and_eq_true, decide_eq_true_eq, decide_eq_false_iff_not, Bool.false_eq_true, iff_false] at *; omega)) ?_
    refine Ag (nF (by (try clear tlJ); rw [beq_iff_eq, Bool.eq_iff_iff]; simp only [Ae, Ab, Av, Bool.and_eq_true, decide_eq_true_eq, decide_eq_false_iff_not, Bool.false_eq_true, iff_false] at *; omega)) ?_
    refine Bv ?_
    refine Ag (nF (by (try clear tlJ); rw [beq_iff_eq, Bool.eq_iff_iff]; simp only [Ae, Ab, Av, Bool.and_eq_true, decide_eq_true_eq, decide_eq_false_iff_not, Bool.false_eq_true, iff_false] at *; omega)) ?_
    refine Ai ((decide (r14.fHeld = r15))) (fun h29 => ?_) (fun h29 => ?_)
    ·refine Ag h29 ?_
     refine Ag h29 ?_
     refine Aaq ?_
     refine Ag (nF (by (try clear tlJ); rw [beq_iff_eq, Bool.eq_iff_iff]; simp only [Ae, Ab, Av, Bool.and_eq_true, decide_eq_true_eq, decide_eq_false_iff_not, Bool.false_eq_true, iff_false] at *; omega)) ?_
     refine D9 h29 ?_
     refine Ag (nF (by (try clear tlJ); rw [beq_iff_eq, Bool.eq_iff_iff]; simp only [Ae, Ab, Av, Bool.and_eq_true, decide_eq_true_eq, decide_eq_false_iff_not, Bool.false_eq_true, iff_false] at *; omega)) ?_
     refine Ai ((decide (0 ≤ r15))) (fun h30 => ?_) (fun h30 => ?_)
     ·refine Ag h30 ?_
      refine Ag h30 ?_
      refine Hw ?_
      refine Ag (nF (by (try clear tlJ); rw [beq_iff_eq, Bool.eq_iff_iff]; simp only [Ae, Ab, Av, Bool.and_eq_true, decide_eq_true_eq, decide_eq_false_iff_not, Bool.false_eq_true, iff_false] at *; omega)) ?_
      refine D9 h30 ?_
      refine Ag (nF (by (try clear tlJ); rw [beq_iff_eq, Bool.eq_iff_iff]; simp only [Ae, Ab, Av, Bool.and_eq_true, decide_eq_true_eq, decide_eq_false_iff_not, Bool.false_eq_true, iff_false] at *; omega)) ?_
      refine I7 (v := .sc (.bool (!((Ab r14 r15) == (decide (r15 < 8)))))) (fun k => rfl) ?_
      refine C4 (nF (by (try clear tlJ); rw [beq_iff_eq, Bool.eq_iff_iff]; simp only [Ae, Ab, Av, Bool.and_eq_true, decide_eq_true_eq, decide_eq_false_iff_not, Bool.false_eq_true, iff_false] at *; omega)) ?_
      refine B3 (nF (by (try clear tlJ); rw [beq_iff_eq, Bool.eq_iff_iff]; simp only [Ae, Ab, Av, Bool.and_eq_true, decide_eq_true_eq, decide_eq_false_iff_not, Bool.false_eq_true, iff_false] at *; omega)) ?_
      refine F3 ?_
      refine Ai ((Ae r1 r2)) (fun h31 => ?_) (fun h31 => ?_)
      ·refine C1 h31 ?_
       refine Eo (by omega) (by omega) ?_
       obtain ⟨z32, hz32, ez32⟩ := atX (n + 32) 3 code hcode
       refine F6 (v := (.int .i64 z32)) s26 rfl (.cons .ro (.cons .sc .nil)) (ez32) ?_
       refine Ph (v := .sc (.int .i64 (z32 % 7))) (fun k => by show k (.sc (.int .i64 (Int.tmod (z32) 7))) = _; rw [Int.tmod_eq_emod_of_nonneg (by omega)]) ?_
       refine Eo (by omega) (by omega) ?_
       refine Ph (v := .sc (.int .i64 (((r2 + 1) + (z32 % 7)) % 8))) (fun k => by show k (.sc (.int .i64 (Int.tmod (((r2 + 1) + (z32 % 7))) 8))) = _; rw [Int.tmod_eq_emod_of_nonneg (by omega)]) ?_
       refine Aj s26 Fa rfl ?_
       have hb33 : StrB 13 (As (As r1 r2) (((r2 + 1) + (z32 % 7)) % 8)) := N7 hb7 (by simp only [C3]; omega)
       have c34 := Ho (n + 26) (by omega) (As r1 r2) (((r2 + 1) + (z32 % 7)) % 8) (hb7.ok (by decide)) (by simp only [C3]; omega) (Nat.le_trans hb7.wt (by decide))
       refine Es s26 rfl (.agg (.cons .sc (.cons (.own (by decide) Lf) .nil)) (.cons .sc .nil)) (c34) rfl (Ek ⟨_, rfl, rfl⟩ (Bz (D3 (ty := 24) rfl (Ec ((As (As r1 r2) (((r2 + 1) + (z32 % 7)) % 8)).fL)) Cp)) (Bz Cp)) ?_
       rintro _ _ H ⟨_, _, _, _, rfl, rfl, ⟨_, rfl, ⟨x35, _, _, lx35, rfl, rfl, ⟨rfl, rfl⟩⟩⟩, ⟨_, rfl, ⟨rfl, rfl⟩⟩⟩ s36
       simp only [List.nil_append, List.cons_append] at s36
       refine Cn (v := .agg [.sc (.int .i64 ((As (As r1 r2) (((r2 + 1) + (z32 % 7)) % 8)).fHeld)), x35]) rfl ?_
       refine Cn (v := .sc (.bool (Ae (As r1 r2) (((r2 + 1) + (z32 % 7)) % 8)))) rfl ?_
       refine C8 s36 fun i37 H s38 => ?_
       refine A3 (cs' := [.sc (.int .i64 ((As (As r1 r2) (((r2 + 1) + (z32 % 7)) % 8)).fHeld)), x35]) s38 (.here) (Ad (Aa rfl (Aa lx35 rfl))) rfl (A7 rfl) rfl fun H s39 => ?_
       refine Aj s39 Q0 rfl ?_
       have hb40 : StrB 13 (As (As r1 r2) r2) := N7 hb7 (by simp only [C3]; omega)
       have c41 := Ho (n + 26) (by omega) (As r1 r2) r2 (hb7.ok (by decide)) (by simp only [C3]; omega) (Nat.le_trans hb7.wt (by decide))
       refine Es s39 rfl (.agg (.cons .sc (.cons (.own (by decide) zP7) .nil)) (.cons .sc .nil)) (c41) rfl (Ek ⟨_, rfl, rfl⟩ (Bz (D3 (ty := 24) rfl (Ec ((As (As r1 r2) r2).fL)) Cp)) (Bz Cp)) ?_
       rintro _ _ H ⟨_, _, _, _, rfl, rfl, ⟨_, rfl, ⟨x42, _, _, lx42, rfl, rfl, ⟨rfl, rfl⟩⟩⟩, ⟨_, rfl, ⟨rfl, rfl⟩⟩⟩ s43
       simp only [List.nil_append, List.cons_append] at s43
       refine Cn (v := .agg [.sc (.int .i64 ((As (As r1 r2) r2).fHeld)), x42]) rfl ?_
       refine Cn (v := .sc (.bool (Ae (As r1 r2) r2))) rfl ?_
       refine C8 s43 fun i44 H s45 => ?_
       refine A3 (cs' := [.sc (.int .i64 ((As (As r1 r2) r2).fHeld)), x42]) s45 (.here) (Ad (Aa rfl (Aa lx42 rfl))) rfl (A7 rfl) rfl fun H s46 => ?_
       refine Aj s46 Vi rfl ?_
       have hb47 : StrB 13 (A1 (As r1 r2) (((r2 + 1) + (z32 % 7)) % 8)) := J8 hb7
       have c48 := Gn (n + 26) (by omega) (As r1 r2) (((r2 + 1) + (z32 % 7)) % 8) (hb7.ok (by decide)) (by simp only [C3]; omega) (Nat.le_trans hb7.wt (by decide))
       refine Es s46 rfl (.agg (.cons .sc (.cons (.own (by decide) D6) .nil)) (.cons .sc .nil)) (c48) rfl (Ek ⟨_, rfl, rfl⟩ (Bz (D3 (ty := 24) rfl (Ec ((A1 (As r1 r2) (((r2 + 1) + (z32 % 7)) % 8)).fL)) Cp)) (Bz Cp)) ?_
       rintro _ _ H ⟨_, _, _, _, rfl, rfl, ⟨_, rfl, ⟨x49, _, _, lx49, rfl, rfl, ⟨rfl, rfl⟩⟩⟩, ⟨_, rfl, ⟨rfl, rfl⟩⟩⟩ s50
       simp only [List.nil_append, List.cons_append] at s50
       refine Cn (v := .agg [.sc (.int .i64 ((A1 (As r1 r2) (((r2 + 1) + (z32 % 7)) % 8)).fHeld)), x49]) rfl ?_
       refine Cn (v := .sc (.bool (Ab (As r1 r2) (((r2 + 1) + (z32 % 7)) % 8)))) rfl ?_
       refine C8 s50 fun i51 H s52 => ?_
       refine A3 (cs' := [.sc (.int .i64 ((A1 (As r1 r2) (((r2 + 1) + (z32 % 7)) % 8)).fHeld)), x49]) s52 (.here) (Ad (Aa rfl (Aa lx49 rfl))) rfl (A7 rfl) rfl fun H s53 => ?_
       refine Aj s53 Px rfl ?_
       have hb54 : StrB 13 (A1 (As r1 r2) r2) := J8 hb7
       have c55 := Gn (n + 26) (by omega) (As r1 r2) r2 (hb7.ok (by decide)) (by simp only [C3]; omega) (Nat.le_trans hb7.wt (by decide))
       refine Es s53 rfl (.agg (.cons .sc (.cons (.own (by decide) Mx) .nil)) (.cons .sc .nil)) (c55) rfl (Ek ⟨_, rfl, rfl⟩ (Bz (D3 (ty := 24) rfl (Ec ((A1 (As r1 r2) r2).fL)) Cp)) (Bz Cp)) ?_
       rintro _ _ H ⟨_, _, _, _, rfl, rfl, ⟨_, rfl, ⟨x56, _, _, lx56, rfl, rfl, ⟨rfl, rfl⟩⟩⟩, ⟨_, rfl, ⟨rfl, rfl⟩⟩⟩ s57
       simp only [List.nil_append, List.cons_append] at s57
       refine Cn (v := .agg [.sc (.int .i64 ((A1 (As r1 r2) r2).fHeld)), x56]) rfl ?_
       refine Cn (v := .sc (.bool (Ab (As r1 r2) r2))) rfl ?_
       refine C8 s57 fun i58 H s59 => ?_
       refine A3 (cs' := [.sc (.int .i64 ((A1 (As r1 r2) r2).fHeld)), x56]) s59 (.here) (Ad (Aa rfl (Aa lx56 rfl))) rfl (A7 rfl) rfl fun H s60 => ?_
       refine Ag (Me h31) ?_
       refine C4 (Me h31) ?_
       refine Ag (Me h31) ?_
       refine C4 (Me h31) ?_
       refine Ag (H6 h31 (by omega)) ?_
       refine Ag (H6 h31 (by omega)) ?_
       refine F8 ?_
       refine C4 (H6 h31 (by omega)) ?_
       refine Ag (nF (Ha h31)) ?_
       refine Af (o' := 0) rfl ?_
       refine Ag (nF (Ha h31)) ?_
       refine Ay (c := .sc (.int .i64 ((A1 (As r1 r2) r2).fHeld))) s60 (.here) rfl ?_
       refine Ag (nF (Ha h31)) ?_
       refine Ki ?_
       refine C4 (nF (Ha h31)) ?_
       refine Ag (nF (decide_eq_true (Gm h31))) ?_
       refine Af (o' := 0) rfl ?_
       refine Ag (nF (decide_eq_true (Gm h31))) ?_
       refine Ay (c := .sc (.int .i64 ((As r1 r2).fHeld))) s60 Ahx rfl ?_
       refine Ag (nF (decide_eq_true (Gm h31))) ?_
       refine Ag (nF (decide_eq_true (Gm h31))) ?_
       refine Ki ?_
       refine C4 (nF (decide_eq_true (Gm h31))) ?_
       refine Ag (nF (decide_eq_true (Dp h31))) ?_
       refine Af (o' := 1) rfl ?_
       refine Ag (nF (decide_eq_true (Dp h31))) ?_
       refine Ay (c := x56) s60 (.here) rfl ?_
       refine Ag (nF (decide_eq_true (Dp h31))) ?_
       refine Ic s60 A8 ?_
       refine Ag (nF (decide_eq_true (Dp h31))) ?_
       refine Af (o' := 1) rfl ?_
       refine Ag (nF (decide_eq_true (Dp h31))) ?_
       refine Ay (c := r1x1) s60 Ahb rfl ?_
       refine Ag (nF (decide_eq_true (Dp h31))) ?_
       refine Ic s60 Ag5 ?_
       refine Ag (nF (decide_eq_true (Dp h31))) ?_
       refine Ki ?_
       refine C4 (nF (decide_eq_true (Dp h31))) ?_
       refine Ai ((decide (((((A1 (As r1 r2) r2).fL).length : Nat) : Int) = ((r1.fL.length : Nat) : Int)))) (fun h61 => ?_) (fun h61 => ?_)
       ·refine B3 (nF h61) ?_
        refine B0 h31 ?_
        refine B0 h31 ?_
        refine B0 h31 ?_
        refine B0 h31 ?_
        refine B0 h31 ?_
        refine D9 h31 ?_
        refine Ag rfl ?_
        refine Ag rfl ?_
        refine Ai ((Ab r14 r15)) (fun h62 => ?_) (fun h62 => ?_)
        ·refine Ag h62 ?_
         refine Af (o' := 0) rfl ?_
         refine Ag h62 ?_
         refine Ay (c := .sc (.int .i64 ((A1 r14 r15).fHeld))) s60 Vi rfl ?_
         refine Ag h62 ?_
         refine Bv ?_
         refine Ag rfl ?_
         refine D9 h62 ?_
         refine Ag rfl ?_
         refine B0 (decide_eq_true (if_pos h62)) ?_
         refine B0 (decide_eq_true (if_pos h62)) ?_
         refine B0 (decide_eq_true (if_pos h62)) ?_
         refine Jt ?_
         refine Jt ?_
         refine Jt ?_
         refine Jt ?_
         refine Jt ?_
         refine B0 (decide_eq_true (if_pos h62)) ?_
         refine Ag rfl ?_
         refine D9 (decide_eq_true (if_pos h62)) ?_
         refine D9 rfl ?_
         refine Dr rfl ?_
         first | rfl | (simp only [As, Ae, A1, Ab, Av, Bool.and_eq_true, Bool.and_eq_false_iff, decide_eq_true_eq, decide_eq_false_iff_not, beq_iff_eq, bne_iff_ne, beq_eq_false_iff_ne] at *; first | omega | (simp_all; done) | (simp_all; omega) | (exfalso; simp_all; omega))
        ·refine B0 h62 ?_
         refine B0 h62 ?_
         refine B0 h62 ?_
         refine Ag rfl ?_
         refine C4 h62 ?_
         refine Ag rfl ?_
         refine Ag rfl ?_
         refine Ag rfl ?_
         refine F8 ?_
         refine Ag rfl ?_
         refine Ag (nT h62) ?_
         refine Af (o' := 0) rfl ?_
         refine Ag (nT h62) ?_
         refine Ay (c := .sc (.int .i64 ((A1 r14 r15).fHeld))) s60 Vi rfl ?_
         refine Ag (nT h62) ?_
         refine Af (o' := 0) rfl ?_
         refine Ag (nT h62) ?_
         refine Ay (c := .sc (.int .i64 r14.fHeld)) s60 Px rfl ?_
         refine Ag (nT h62) ?_
         refine Bv ?_
         refine Ag rfl ?_
         refine D9 (nT h62) ?_
         refine Ag rfl ?_
         refine C4 rfl ?_
         refine D9 rfl ?_
         refine Dr rfl ?_
         first | rfl | (simp only [As, Ae, A1, Ab, Av, Bool.and_eq_true, Bool.and_eq_false_iff, decide_eq_true_eq, decide_eq_false_iff_not, beq_iff_eq, bne_iff_ne, beq_eq_false_iff_ne] at *; first | omega | (simp_all; done) | (simp_all; omega) | (exfalso; simp_all; omega))
       ·refine C1 (nT h61) ?_
        refine Dr rfl ?_
        first | rfl | (simp only [As, Ae, A1, Ab, Av, Bool.and_eq_true, Bool.and_eq_false_iff, decide_eq_true_eq, decide_eq_false_iff_not, beq_iff_eq, bne_iff_ne, beq_eq_false_iff_ne] at *; first | omega | (simp_all; done) | (simp_all; omega) | (exfalso; simp_all; omega))
      ·refine B3 h31 ?_
       refine Ag h31 ?_
       refine Af (o' := 0) rfl ?_
       refine Ag h31 ?_
       refine Ay (c := .sc (.int .i64 ((As r1 r2).fHeld))) s26 Fa rfl ?_
       refine Ag h31 ?_
       refine Af (o' := 0) rfl ?_
       refine Ag h31 ?_
       refine Ay (c := .sc (.int .i64 r1.fHeld)) s26 Q0 rfl ?_
       refine Ag h31 ?_
       refine Bv ?_
       refine C4 h31 ?_
       refine Ag (decide_eq_true (Bn h31)) ?_
       refine Ag (decide_eq_true (Bn h31)) ?_
       refine Ai ((Ab r14 r15)) (fun h63 => ?_) (fun h63 => ?_)
       ·refine Ag h63 ?_
        refine Af (o' := 0) rfl ?_
        refine Ag h63 ?_
        refine Ay (c := .sc (.int .i64 ((A1 r14 r15).fHeld))) s26 (.here) rfl ?_
        refine Ag h63 ?_
        refine Bv ?_
        refine Ag (decide_eq_true (Bn h31)) ?_
        refine D9 h63 ?_
        refine Ag (decide_eq_true (Bn h31)) ?_
        refine B0 (decide_eq_true (if_pos h63)) ?_
        refine B0 (decide_eq_true (if_pos h63)) ?_
        refine B0 (decide_eq_true (if_pos h63)) ?_
        refine Jt ?_
        refine Jt ?_
        refine Jt ?_
        refine Jt ?_
        refine Jt ?_
        refine B0 (decide_eq_true (if_pos h63)) ?_
        refine Ag (decide_eq_true (Bn h31)) ?_
        refine D9 (decide_eq_true (if_pos h63)) ?_
        refine D9 (decide_eq_true (Bn h31)) ?_
        refine Dr rfl ?_
        first | rfl | (simp only [As, Ae, A1, Ab, Av, Bool.and_eq_true, Bool.and_eq_false_iff, decide_eq_true_eq, decide_eq_false_iff_not, beq_iff_eq, bne_iff_ne, beq_eq_false_iff_ne] at *; first | omega | (simp_all; done) | (simp_all; omega) | (exfalso; simp_all; omega))
       ·refine B0 h63 ?_
        refine B0 h63 ?_
        refine B0 h63 ?_
        refine Ag (decide_eq_true (Bn h31)) ?_
        refine C4 h63 ?_
        refine Ag (decide_eq_true (Bn h31)) ?_
        refine Ag rfl ?_
        refine Ag rfl ?_
        refine F8 ?_
        refine Ag rfl ?_
        refine Ag (nT h63) ?_
        refine Af (o' := 0) rfl ?_
        refine Ag (nT h63) ?_
        refine Ay (c := .sc (.int .i64 ((A1 r14 r15).fHeld))) s26 (.here) rfl ?_
        refine Ag (nT h63) ?_
        refine Af (o' := 0) rfl ?_
        refine Ag (nT h63) ?_
        refine Ay (c := .sc (.int .i64 r14.fHeld)) s26 Ci rfl ?_
        refine Ag (nT h63) ?_
        refine Bv ?_
        refine Ag rfl ?_
        refine D9 (nT h63) ?_
        refine Ag (decide_eq_true (Bn h31)) ?_
        refine C4 rfl ?_
        refine D9 (decide_eq_true (Bn h31)) ?_
        refine Dr rfl ?_
        first | rfl | (simp only [As, Ae, A1, Ab, Av, Bool.and_eq_true, Bool.and_eq_false_iff, decide_eq_true_eq, decide_eq_false_iff_not, beq_iff_eq, bne_iff_ne, beq_eq_false_iff_ne] at *; first | omega | (simp_all; done) | (simp_all; omega) | (exfalso; simp_all; omega))
     ·refine B0 h30 ?_
      refine B0 h30 ?_
      refine Ag (nF (by (try clear tlJ); rw [beq_iff_eq, Bool.eq_iff_iff]; simp only [Ae, Ab, Av, Bool.and_eq_true, decide_eq_true_eq, decide_eq_false_iff_not, Bool.false_eq_true, iff_false] at *; omega)) ?_
      refine C4 h30 ?_
      refine Ag (nF (by (try clear tlJ); rw [beq_iff_eq, Bool.eq_iff_iff]; simp only [Ae, Ab, Av, Bool.and_eq_true, decide_eq_true_eq, decide_eq_false_iff_not, Bool.false_eq_true, iff_false] at *; omega)) ?_
      refine I7 (v := .sc (.bool (!((Ab r14 r15) == false)))) (fun k => rfl) ?_
      refine C4 (nF (by (try clear tlJ); rw [beq_iff_eq, Bool.eq_iff_iff]; simp only [Ae, Ab, Av, Bool.and_eq_true, decide_eq_true_eq, decide_eq_false_iff_not, Bool.false_eq_true, iff_false] at *; omega)) ?_
      refine B3 (nF (by (try clear tlJ); rw [beq_iff_eq, Bool.eq_iff_iff]; simp only [Ae, Ab, Av, Bool.and_eq_true, decide_eq_true_eq, decide_eq_false_iff_not, Bool.false_eq_true, iff_false] at *; omega)) ?_
      refine F3 ?_
      refine Ai ((Ae r1 r2)) (fun h64 => ?_) (fun h64 => ?_)
      ·refine C1 h64 ?_
       refine Eo (by omega) (by omega) ?_
       obtain ⟨z65, hz65, ez65⟩ := atX (n + 32) 3 code hcode
       refine F6 (v := (.int .i64 z65)) s26 rfl (.cons .ro (.cons .sc .nil)) (ez65) ?_
       refine Ph (v := .sc (.int .i64 (z65 % 7))) (fun k => by show k (.sc (.int .i64 (Int.tmod (z65) 7))) = _; rw [Int.tmod_eq_emod_of_nonneg (by omega)]) ?_
       refine Eo (by omega) (by omega) ?_
       refine Ph (v := .sc (.int .i64 (((r2 + 1) + (z65 % 7)) % 8))) (fun k => by show k (.sc (.int .i64 (Int.tmod (((r2 + 1) + (z65 % 7))) 8))) = _; rw [Int.tmod_eq_emod_of_nonneg (by omega)]) ?_
       refine Aj s26 Fa rfl ?_
       have hb66 : StrB 13 (As (As r1 r2) (((r2 + 1) + (z65 % 7)) % 8)) := N7 hb7 (by simp only [C3]; omega)
       have c67 := Ho (n + 26) (by omega) (As r1 r2) (((r2 + 1) + (z65 % 7)) % 8) (hb7.ok (by decide)) (by simp only [C3]; omega) (Nat.le_trans hb7.wt (by decide))
       refine Es s26 rfl (.agg (.cons .sc (.cons (.own (by decide) Lf) .nil)) (.cons .sc .nil)) (c67) rfl (Ek ⟨_, rfl, rfl⟩ (Bz (D3 (ty := 24) rfl (Ec ((As (As r1 r2) (((r2 + 1) + (z65 % 7)) % 8)).fL)) Cp)) (Bz Cp)) ?_
       rintro _ _ H ⟨_, _, _, _, rfl, rfl, ⟨_, rfl, ⟨x68, _, _, lx68, rfl, rfl, ⟨rfl, rfl⟩⟩⟩, ⟨_, rfl, ⟨rfl, rfl⟩⟩⟩ s69
       simp only [List.nil_append, List.cons_append] at s69
       refine Cn (v := .agg [.sc (.int .i64 ((As (As r1 r2) (((r2 + 1) + (z65 % 7)) % 8)).fHeld)), x68]) rfl ?_
       refine Cn (v := .sc (.bool (Ae (As r1 r2) (((r2 + 1) + (z65 % 7)) % 8)))) rfl ?_
       refine C8 s69 fun i70 H s71 => ?_
       refine A3 (cs' := [.sc (.int .i64 ((As (As r1 r2) (((r2 + 1) + (z65 % 7)) % 8)).fHeld)), x68]) s71 (.here) (Ad (Aa rfl (Aa lx68 rfl))) rfl (A7 rfl) rfl fun H s72 => ?_
       refine Aj s72 Q0 rfl ?_
       have hb73 : StrB 13 (As (As r1 r2) r2) := N7 hb7 (by simp only [C3]; omega)
       have c74 := Ho (n + 26) (by omega) (As r1 r2) r2 (hb7.ok (by decide)) (by simp only [C3]; omega) (Nat.le_trans hb7.wt (by decide))
       refine Es s72 rfl (.agg (.cons .sc (.cons (.own (by decide) zP7) .nil)) (.cons .sc .nil)) (c74) rfl (Ek ⟨_, rfl, rfl⟩ (Bz (D3 (ty := 24) rfl (Ec ((As (As r1 r2) r2).fL)) Cp)) (Bz Cp)) ?_
       rintro _ _ H ⟨_, _, _, _, rfl, rfl, ⟨_, rfl, ⟨x75, _, _, lx75, rfl, rfl, ⟨rfl, rfl⟩⟩⟩, ⟨_, rfl, ⟨rfl, rfl⟩⟩⟩ s76
       simp only [List.nil_append, List.cons_append] at s76
       refine Cn (v := .agg [.sc (.int .i64 ((As (As r1 r2) r2).fHeld)), x75]) rfl ?_
       refine Cn (v := .sc (.bool (Ae (As r1 r2) r2))) rfl ?_
       refine C8 s76 fun i77 H s78 => ?_
       refine A3 (cs' := [.sc (.int .i64 ((As (As r1 r2) r2).fHeld)), x75]) s78 (.here) (Ad (Aa rfl (Aa lx75 rfl))) rfl (A7 rfl) rfl fun H s79 => ?_
       refine Aj s79 Vi rfl ?_
       have hb80 : StrB 13 (A1 (As r1 r2) (((r2 + 1) + (z65 % 7)) % 8)) := J8 hb7
       have c81 := Gn (n + 26) (by omega) (As r1 r2) (((r2 + 1) + (z65 % 7)) % 8) (hb7.ok (by decide)) (by simp only [C3]; omega) (Nat.le_trans hb7.wt (by decide))
       refine Es s79 rfl (.agg (.cons .sc (.cons (.own (by decide) D6) .nil)) (.cons .sc .nil)) (c81) rfl (Ek ⟨_, rfl, rfl⟩ (Bz (D3 (ty := 24) rfl (Ec ((A1 (As r1 r2) (((r2 + 1) + (z65 % 7)) % 8)).fL)) Cp)) (Bz Cp)) ?_
       rintro _ _ H ⟨_, _, _, _, rfl, rfl, ⟨_, rfl, ⟨x82, _, _, lx82, rfl, rfl, ⟨rfl, rfl⟩⟩⟩, ⟨_, rfl, ⟨rfl, rfl⟩⟩⟩ s83
       simp only [List.nil_append, List.cons_append] at s83
       refine Cn (v := .agg [.sc (.int .i64 ((A1 (As r1 r2) (((r2 + 1) + (z65 % 7)) % 8)).fHeld)), x82]) rfl ?_
       refine Cn (v := .sc (.bool (Ab (As r1 r2) (((r2 + 1) + (z65 % 7)) % 8)))) rfl ?_
       refine C8 s83 fun i84 H s85 => ?_
       refine A3 (cs' := [.sc (.int .i64 ((A1 (As r1 r2) (((r2 + 1) + (z65 % 7)) % 8)).fHeld)), x82]) s85 (.here) (Ad (Aa rfl (Aa lx82 rfl))) rfl (A7 rfl) rfl fun H s86 => ?_
       refine Aj s86 Px rfl ?_
       have hb87 : StrB 13 (A1 (As r1 r2) r2) := J8 hb7
       have c88 := Gn (n + 26) (by omega) (As r1 r2) r2 (hb7.ok (by decide)) (by simp only [C3]; omega) (Nat.le_trans hb7.wt (by decide))
       refine Es s86 rfl (.agg (.cons .sc (.cons (.own (by decide) Mx) .nil)) (.cons .sc .nil)) (c88) rfl (Ek ⟨_, rfl, rfl⟩ (Bz (D3 (ty := 24) rfl (Ec ((A1 (As r1 r2) r2).fL)) Cp)) (Bz Cp)) ?_
       rintro _ _ H ⟨_, _, _, _, rfl, rfl, ⟨_, rfl, ⟨x89, _, _, lx89, rfl, rfl, ⟨rfl, rfl⟩⟩⟩, ⟨_, rfl, ⟨rfl, rfl⟩⟩⟩ s90
       simp only [List.nil_append, List.cons_append] at s90
       refine Cn (v := .agg [.sc (.int .i64 ((A1 (As r1 r2) r2).fHeld)), x89]) rfl ?_
       refine Cn (v := .sc (.bool (Ab (As r1 r2) r2))) rfl ?_
       refine C8 s90 fun i91 H s92 => ?_
       refine A3 (cs' := [.sc (.int .i64 ((A1 (As r1 r2) r2).fHeld)), x89]) s92 (.here) (Ad (Aa rfl (Aa lx89 rfl))) rfl (A7 rfl) rfl fun H s93 => ?_
       refine Ag (Me h64) ?_
       refine C4 (Me h64) ?_
       refine Ag (Me h64) ?_
       refine C4 (Me h64) ?_
       refine Ag (H6 h64 (by omega)) ?_
       refine Ag (H6 h64 (by omega)) ?_
       refine F8 ?_
       refine C4 (H6 h64 (by omega)) ?_
       refine Ag (nF (Ha h64)) ?_
       refine Af (o' := 0) rfl ?_
       refine Ag (nF (Ha h64)) ?_
       refine Ay (c := .sc (.int .i64 ((A1 (As r1 r2) r2).fHeld))) s93 (.here) rfl ?_
       refine Ag (nF (Ha h64)) ?_
       refine Ki ?_
       refine C4 (nF (Ha h64)) ?_
       refine Ag (nF (decide_eq_true (Gm h64))) ?_
       refine Af (o' := 0) rfl ?_
       refine Ag (nF (decide_eq_true (Gm h64))) ?_
       refine Ay (c := .sc (.int .i64 ((As r1 r2).fHeld))) s93 Ahx rfl ?_
       refine Ag (nF (decide_eq_true (Gm h64))) ?_
       refine Ag (nF (decide_eq_true (Gm h64))) ?_
       refine Ki ?_
       refine C4 (nF (decide_eq_true (Gm h64))) ?_
       refine Ag (nF (decide_eq_true (Dp h64))) ?_
       refine Af (o' := 1) rfl ?_
       refine Ag (nF (decide_eq_true (Dp h64))) ?_
       refine Ay (c := x89) s93 (.here) rfl ?_
       refine Ag (nF (decide_eq_true (Dp h64))) ?_
       refine Ic s93 A8 ?_
       refine Ag (nF (decide_eq_true (Dp h64))) ?_
       refine Af (o' := 1) rfl ?_
       refine Ag (nF (decide_eq_true (Dp h64))) ?_
       refine Ay (c := r1x1) s93 Ahb rfl ?_
       refine Ag (nF (decide_eq_true (Dp h64))) ?_
       refine Ic s93 Ag5 ?_
       refine Ag (nF (decide_eq_true (Dp h64))) ?_
       refine Ki ?_
       refine C4 (nF (decide_eq_true (Dp h64))) ?_
       refine Ai ((decide (((((A1 (As r1 r2) r2).fL).length : Nat) : Int) = ((r1.fL.length : Nat) : Int)))) (fun h94 => ?_) (fun h94 => ?_)
       ·refine B3 (nF h94) ?_
        refine B0 h64 ?_
        refine B0 h64 ?_
        refine B0 h64 ?_
        refine B0 h64 ?_
        refine B0 h64 ?_
        refine D9 h64 ?_
        refine Ag rfl ?_
        refine Ag rfl ?_
        refine B0 (Bool.eq_false_iff.2 (by (try clear tlJ); intro hq; simp only [Ae, Ab, Av, Bool.and_eq_true, decide_eq_true_eq, decide_eq_false_iff_not] at *; omega)) ?_
        refine B0 (Bool.eq_false_iff.2 (by (try clear tlJ); intro hq; simp only [Ae, Ab, Av, Bool.and_eq_true, decide_eq_true_eq, decide_eq_false_iff_not] at *; omega)) ?_
        refine B0 (Bool.eq_false_iff.2 (by (try clear tlJ); intro hq; simp only [Ae, Ab, Av, Bool.and_eq_true, decide_eq_true_eq, decide_eq_false_iff_not] at *; omega)) ?_
        refine Ag rfl ?_
        refine C4 (Bool.eq_false_iff.2 (by (try clear tlJ); intro hq; simp only [Ae, Ab, Av, Bool.and_eq_true, decide_eq_true_eq, decide_eq_false_iff_not] at *; omega)) ?_
        refine Ag rfl ?_
        refine Ag rfl ?_
        refine Ag rfl ?_
        refine F8 ?_
        refine Ag rfl ?_
        refine Ag (nT (Bool.eq_false_iff.2 (by (try clear tlJ); intro hq; simp only [Ae, Ab, Av, Bool.and_eq_true, decide_eq_true_eq, decide_eq_false_iff_not] at *; omega))) ?_
        refine Af (o' := 0) rfl ?_
        refine Ag (nT (Bool.eq_false_iff.2 (by (try clear tlJ); intro hq; simp only [Ae, Ab, Av, Bool.and_eq_true, decide_eq_true_eq, decide_eq_false_iff_not] at *; omega))) ?_
        refine Ay (c := .sc (.int .i64 ((A1 r14 r15).fHeld))) s93 Vi rfl ?_
        refine Ag (nT (Bool.eq_false_iff.2 (by (try clear tlJ); intro hq; simp only [Ae, Ab, Av, Bool.and_eq_true, decide_eq_true_eq, decide_eq_false_iff_not] at *; omega))) ?_
        refine Af (o' := 0) rfl ?_
        refine Ag (nT (Bool.eq_false_iff.2 (by (try clear tlJ); intro hq; simp only [Ae, Ab, Av, Bool.and_eq_true, decide_eq_true_eq, decide_eq_false_iff_not] at *; omega))) ?_
        refine Ay (c := .sc (.int .i64 r14.fHeld)) s93 Px rfl ?_
        refine Ag (nT (Bool.eq_false_iff.2 (by (try clear tlJ); intro hq; simp only [Ae, Ab, Av, Bool.and_eq_true, decide_eq_true_eq, decide_eq_false_iff_not] at *; omega))) ?_
        refine Bv ?_
        refine Ag rfl ?_
        refine D9 (nT (Bool.eq_false_iff.2 (by (try clear tlJ); intro hq; simp only [Ae, Ab, Av, Bool.and_eq_true, decide_eq_true_eq, decide_eq_false_iff_not] at *; omega))) ?_
        refine Ag rfl ?_
        refine C4 rfl ?_
        refine D9 rfl ?_
        refine Dr rfl ?_
        first | rfl | (simp only [As, Ae, A1, Ab, Av, Bool.and_eq_true, Bool.and_eq_false_iff, decide_eq_true_eq, decide_eq_false_iff_not, beq_iff_eq, bne_iff_ne, beq_eq_false_iff_ne] at *; first | omega | (simp_all; done) | (simp_all; omega) | (exfalso; simp_all; omega))
       ·refine C1 (nT h94) ?_
        refine Dr rfl ?_
        first | rfl | (simp only [As, Ae, A1, Ab, Av, Bool.and_eq_true, Bool.and_eq_false_iff, decide_eq_true_eq, decide_eq_false_iff_not, beq_iff_eq, bne_iff_ne, beq_eq_false_iff_ne] at *; first | omega | (simp_all; done) | (simp_all; omega) | (exfalso; simp_all; omega))
      ·refine B3 h64 ?_
       refine Ag h64 ?_
       refine Af (o' := 0) rfl ?_
       refine Ag h64 ?_
       refine Ay (c := .sc (.int .i64 ((As r1 r2).fHeld))) s26 Fa rfl ?_
       refine Ag h64 ?_
       refine Af (o' := 0) rfl ?_
       refine Ag h64 ?_
       refine Ay (c := .sc (.int .i64 r1.fHeld)) s26 Q0 rfl ?_
       refine Ag h64 ?_
       refine Bv ?_
       refine C4 h64 ?_
       refine Ag (decide_eq_true (Bn h64)) ?_
       refine Ag (decide_eq_true (Bn h64)) ?_
       refine B0 (Bool.eq_false_iff.2 (by (try clear tlJ); intro hq; simp only [Ae, Ab, Av, Bool.and_eq_true, decide_eq_true_eq, decide_eq_false_iff_not] at *; omega)) ?_
       refine B0 (Bool.eq_false_iff.2 (by (try clear tlJ); intro hq; simp only [Ae, Ab, Av, Bool.and_eq_true, decide_eq_true_eq, decide_eq_false_iff_not] at *; omega)) ?_
       refine B0 (Bool.eq_false_iff.2 (by (try clear tlJ); intro hq; simp only [Ae, Ab, Av, Bool.and_eq_true, decide_eq_true_eq, decide_eq_false_iff_not] at *; omega)) ?_
       refine Ag (decide_eq_true (Bn h64)) ?_
       refine C4 (Bool.eq_false_iff.2 (by (try clear tlJ); intro hq; simp only [Ae, Ab, Av, Bool.and_eq_true, decide_eq_true_eq, decide_eq_false_iff_not] at *; omega)) ?_
       refine Ag (decide_eq_true (Bn h64)) ?_
       refine Ag rfl ?_
       refine Ag rfl ?_
       refine F8 ?_
       refine Ag rfl ?_
       refine Ag (nT (Bool.eq_false_iff.2 (by (try clear tlJ); intro hq; simp only [Ae, Ab, Av, Bool.and_eq_true, decide_eq_true_eq, decide_eq_false_iff_not] at *; omega))) ?_
       refine Af (o' := 0) rfl ?_
       refine Ag (nT (Bool.eq_false_iff.2 (by (try clear tlJ); intro hq; simp only [Ae, Ab, Av, Bool.and_eq_true, decide_eq_true_eq, decide_eq_false_iff_not] at *; omega))) ?_
       refine Ay (c := .sc (.int .i64 ((A1 r14 r15).fHeld))) s26 (.here) rfl ?_
       refine Ag (nT (Bool.eq_false_iff.2 (by (try clear tlJ); intro hq; simp only [Ae, Ab, Av, Bool.and_eq_true, decide_eq_true_eq, decide_eq_false_iff_not] at *; omega))) ?_
       refine Af (o' := 0) rfl ?_
       refine Ag (nT (Bool.eq_false_iff.2 (by (try clear tlJ); intro hq; simp only [Ae, Ab, Av, Bool.and_eq_true, decide_eq_true_eq, decide_eq_false_iff_not] at *; omega))) ?_
       refine Ay (c := .sc (.int .i64 r14.fHeld)) s26 Ci rfl ?_
       refine Ag (nT (Bool.eq_false_iff.2 (by (try clear tlJ); intro hq; simp only [Ae, Ab, Av, Bool.and_eq_true, decide_eq_true_eq, decide_eq_false_iff_not] at *; omega))) ?_
       refine Bv ?_
       refine Ag rfl ?_
       refine D9 (nT (Bool.eq_false_iff.2 (by (try clear tlJ); intro hq; simp only [Ae, Ab, Av, Bool.and_eq_true, decide_eq_true_eq, decide_eq_false_iff_not] at *; omega))) ?_
       refine Ag (decide_eq_true (Bn h64)) ?_
       refine C4 rfl ?_
       refine D9 (decide_eq_true (Bn h64)) ?_
       refine Dr rfl ?_
       first | rfl | (simp only [As, Ae, A1, Ab, Av, Bool.and_eq_true, Bool.and_eq_false_iff, decide_eq_true_eq, decide_eq_false_iff_not, beq_iff_eq, bne_iff_ne, beq_eq_false_iff_ne] at *; first | omega | (simp_all; done) | (simp_all; omega) | (exfalso; simp_all; omega))
    ·refine B0 h29 ?_
     refine B0 h29 ?_
     refine Ag (nF (by (try clear tlJ); rw [beq_iff_eq, Bool.eq_iff_iff]; simp only [Ae, Ab, Av, Bool.and_eq_true, decide_eq_true_eq, decide_eq_false_iff_not, Bool.false_eq_true, iff_false] at *; omega)) ?_
     refine C4 h29 ?_
     refine Ag (nF (by (try clear tlJ); rw [beq_iff_eq, Bool.eq_iff_iff]; simp only [Ae, Ab, Av, Bool.and_eq_true, decide_eq_true_eq, decide_eq_false_iff_not, Bool.false_eq_true, iff_false] at *; omega)) ?_
     refine B0 rfl ?_
     refine B0 rfl ?_
     refine Ag (nF (by (try clear tlJ); rw [beq_iff_eq, Bool.eq_iff_iff]; simp only [Ae, Ab, Av, Bool.and_eq_true, decide_eq_true_eq, decide_eq_false_iff_not, Bool.false_eq_true, iff_false] at *; omega)) ?_
     refine C4 rfl ?_
     refine Ag (nF (by (try clear tlJ); rw [beq_iff_eq, Bool.eq_iff_iff]; simp only [Ae, Ab, Av, Bool.and_eq_true, decide_eq_true_eq, decide_eq_false_iff_not, Bool.false_eq_true, iff_false] at *; omega)) ?_
     refine I7 (v := .sc (.bool (!((Ab r14 r15) == false)))) (fun k => rfl) ?_
     refine C4 (nF (by (try clear tlJ); rw [beq_iff_eq, Bool.eq_iff_iff]; simp only [Ae, Ab, Av, Bool.and_eq_true, decide_eq_true_eq, decide_eq_false_iff_not, Bool.false_eq_true, iff_false] at *; omega)) ?_
     refine B3 (nF (by (try clear tlJ); rw [beq_iff_eq, Bool.eq_iff_iff]; simp only [Ae, Ab, Av, Bool.and_eq_true, decide_eq_true_eq, decide_eq_false_iff_not, Bool.false_eq_true, iff_false] at *; omega)) ?_
     refine F3 ?_
     refine Ai ((Ae r1 r2)) (fun h95 => ?_) (fun h95 => ?_)
     ·refine C1 h95 ?_
      refine Eo (by omega) (by omega) ?_
      obtain ⟨z96, hz96, ez96⟩ := atX (n + 32) 3 code hcode
      refine F6 (v := (.int .i64 z96)) s26 rfl (.cons .ro (.cons .sc .nil)) (ez96) ?_
      refine Ph (v := .sc (.int .i64 (z96 % 7))) (fun k => by show k (.sc (.int .i64 (Int.tmod (z96) 7))) = _; rw [Int.tmod_eq_emod_of_nonneg (by omega)]) ?_
      refine Eo (by omega) (by omega) ?_
      refine Ph (v := .sc (.int .i64 (((r2 + 1) + (z96 % 7)) % 8))) (fun k => by show k (.sc (.int .i64 (Int.tmod (((r2 + 1) + (z96 % 7))) 8))) = _; rw [Int.tmod_eq_emod_of_nonneg (by omega)]) ?_
      refine Aj s26 Fa rfl ?_
      have hb97 : StrB 13 (As (As r1 r2) (((r2 + 1) + (z96 % 7)) % 8)) := N7 hb7 (by simp only [C3]; omega)
      have c98 := Ho (n + 26) (by omega) (As r1 r2) (((r2 + 1) + (z96 % 7)) % 8) (hb7.ok (by decide)) (by simp only [C3]; omega) (Nat.le_trans hb7.wt (by decide))
      refine Es s26 rfl (.agg (.cons .sc (.cons (.own (by decide) Lf) .nil)) (.cons .sc .nil)) (c98) rfl (Ek ⟨_, rfl, rfl⟩ (Bz (D3 (ty := 24) rfl (Ec ((As (As r1 r2) (((r2 + 1) + (z96 % 7)) % 8)).fL)) Cp)) (Bz Cp)) ?_
      rintro _ _ H ⟨_, _, _, _, rfl, rfl, ⟨_, rfl, ⟨x99, _, _, lx99, rfl, rfl, ⟨rfl, rfl⟩⟩⟩, ⟨_, rfl, ⟨rfl, rfl⟩⟩⟩ s100
      simp only [List.nil_append, List.cons_append] at s100
      refine Cn (v := .agg [.sc (.int .i64 ((As (As r1 r2) (((r2 + 1) + (z96 % 7)) % 8)).fHeld)), x99]) rfl ?_
      refine Cn (v := .sc (.bool (Ae (As r1 r2) (((r2 + 1) + (z96 % 7)) % 8)))) rfl ?_
      refine C8 s100 fun i101 H s102 => ?_
      refine A3 (cs' := [.sc (.int .i64 ((As (As r1 r2) (((r2 + 1) + (z96 % 7)) % 8)).fHeld)), x99]) s102 (.here) (Ad (Aa rfl (Aa lx99 rfl))) rfl (A7 rfl) rfl fun H s103 => ?_
      refine Aj s103 Q0 rfl ?_
      have hb104 : StrB 13 (As (As r1 r2) r2) := N7 hb7 (by simp only [C3]; omega)
      have Ahc := Ho (n + 26) (by omega) (As r1 r2) r2 (hb7.ok (by decide)) (by simp only [C3]; omega) (Nat.le_trans hb7.wt (by decide))
      refine Es s103 rfl (.agg (.cons .sc (.cons (.own (by decide) zP7) .nil)) (.cons .sc .nil)) (Ahc) rfl (Ek ⟨_, rfl, rfl⟩ (Bz (D3 (ty := 24) rfl (Ec ((As (As r1 r2) r2).fL)) Cp)) (Bz Cp)) ?_
      rintro _ _ H ⟨_, _, _, _, rfl, rfl, ⟨_, rfl, ⟨x106, _, _, lx106, rfl, rfl, ⟨rfl, rfl⟩⟩⟩, ⟨_, rfl, ⟨rfl, rfl⟩⟩⟩ s107
      simp only [List.nil_append, List.cons_append] at s107
      refine Cn (v := .agg [.sc (.int .i64 ((As (As r1 r2) r2).fHeld)), x106]) rfl ?_
      refine Cn (v := .sc (.bool (Ae (As r1 r2) r2))) rfl ?_
      refine C8 s107 fun i108 H s109 => ?_
      refine A3 (cs' := [.sc (.int .i64 ((As (As r1 r2) r2).fHeld)), x106]) s109 (.here) (Ad (Aa rfl (Aa lx106 rfl))) rfl (A7 rfl) rfl fun H s110 => ?_
      refine Aj s110 Vi rfl ?_
      have hb111 : StrB 13 (A1 (As r1 r2) (((r2 + 1) + (z96 % 7)) % 8)) := J8 hb7
      have c112 := Gn (n + 26) (by omega) (As r1 r2) (((r2 + 1) + (z96 % 7)) % 8) (hb7.ok (by decide)) (by simp only [C3]; omega) (Nat.le_trans hb7.wt (by decide))
      refine Es s110 rfl (.agg (.cons .sc (.cons (.own (by decide) D6) .nil)) (.cons .sc .nil)) (c112) rfl (Ek ⟨_, rfl, rfl⟩ (Bz (D3 (ty := 24) rfl (Ec ((A1 (As r1 r2) (((r2 + 1) + (z96 % 7)) % 8)).fL)) Cp)) (Bz Cp)) ?_
      rintro _ _ H ⟨_, _, _, _, rfl, rfl, ⟨_, rfl, ⟨x113, _, _, lx113, rfl, rfl, ⟨rfl, rfl⟩⟩⟩, ⟨_, rfl, ⟨rfl, rfl⟩⟩⟩ s114
      simp only [List.nil_append, List.cons_append] at s114
      refine Cn (v := .agg [.sc (.int .i64 ((A1 (As r1 r2) (((r2 + 1) + (z96 % 7)) % 8)).fHeld)), x113]) rfl ?_
      refine Cn (v := .sc (.bool (Ab (As r1 r2) (((r2 + 1) + (z96 % 7)) % 8)))) rfl ?_
      refine C8 s114 fun i115 H s116 => ?_
      refine A3 (cs' := [.sc (.int .i64 ((A1 (As r1 r2) (((r2 + 1) + (z96 % 7)) % 8)).fHeld)), x113]) s116 (.here) (Ad (Aa rfl (Aa lx113 rfl))) rfl (A7 rfl) rfl fun H s117 => ?_
      refine Aj s117 Px rfl ?_
      have hb118 : StrB 13 (A1 (As r1 r2) r2) := J8 hb7
      have c119 := Gn (n + 26) (by omega) (As r1 r2) r2 (hb7.ok (by decide)) (by simp only [C3]; omega) (Nat.le_trans hb7.wt (by decide))
      refine Es s117 rfl (.agg (.cons .sc (.cons (.own (by decide) Mx) .nil)) (.cons .sc .nil)) (c119) rfl (Ek ⟨_, rfl, rfl⟩ (Bz (D3 (ty := 24) rfl (Ec ((A1 (As r1 r2) r2).fL)) Cp)) (Bz Cp)) ?_
      rintro _ _ H ⟨_, _, _, _, rfl, rfl, ⟨_, rfl, ⟨x120, _, _, lx120, rfl, rfl, ⟨rfl, rfl⟩⟩⟩, ⟨_, rfl, ⟨rfl, rfl⟩⟩⟩ s121
      simp only [List.nil_append, List.cons_append] at s121
      refine Cn (v := .agg [.sc (.int .i64 ((A1 (As r1 r2) r2).fHeld)), x120]) rfl ?_
      refine Cn (v := .sc (.bool (Ab (As r1 r2) r2))) rfl ?_
      refine C8 s121 fun i122 H s123 => ?_
      refine A3 (cs' := [.sc (.int .i64 ((A1 (As r1 r2) r2).fHeld)), x120]) s123 (.here) (Ad (Aa rfl (Aa lx120 rfl))) rfl (A7 rfl) rfl fun H s124 => ?_
      refine Ag (Me h95) ?_
      refine C4 (Me h95) ?_
      refine Ag (Me h95) ?_
      refine C4 (Me h95) ?_
      refine Ag (H6 h95 (by omega)) ?_
      refine Ag (H6 h95 (by omega)) ?_
      refine F8 ?_
      refine C4 (H6 h95 (by omega)) ?_
      refine Ag (nF (Ha h95)) ?_
      refine Af (o' := 0) rfl ?_
      refine Ag (nF (Ha h95)) ?_
      refine Ay (c := .sc (.int .i64 ((A1 (As r1 r2) r2).fHeld))) s124 (.here) rfl ?_
      refine Ag (nF (Ha h95)) ?_
      refine Ki ?_
      refine C4 (nF (Ha h95)) ?_
      refine Ag (nF (decide_eq_true (Gm h95))) ?_
      refine Af (o' := 0) rfl ?_
      refine Ag (nF (decide_eq_true (Gm h95))) ?_
      refine Ay (c := .sc (.int .i64 ((As r1 r2).fHeld))) s124 Ahx rfl ?_
      refine Ag (nF (decide_eq_true (Gm h95))) ?_
      refine Ag (nF (decide_eq_true (Gm h95))) ?_
      refine Ki ?_
      refine C4 (nF (decide_eq_true (Gm h95))) ?_
      refine Ag (nF (decide_eq_true (Dp h95))) ?_
      refine Af (o' := 1) rfl ?_
      refine Ag (nF (decide_eq_true (Dp h95))) ?_
      refine Ay (c := x120) s124 (.here) rfl ?_
      refine Ag (nF (decide_eq_true (Dp h95))) ?_
      refine Ic s124 A8 ?_
      refine Ag (nF (decide_eq_true (Dp h95))) ?_
      refine Af (o' := 1) rfl ?_
      refine Ag (nF (decide_eq_true (Dp h95))) ?_
      refine Ay (c := r1x1) s124 Ahb rfl ?_
      refine Ag (nF (decide_eq_true (Dp h95))) ?_
      refine Ic s124 Ag5 ?_
      refine Ag (nF (decide_eq_true (Dp h95))) ?_
      refine Ki ?_
      refine C4 (nF (decide_eq_true (Dp h95))) ?_
      refine Ai ((decide (((((A1 (As r1 r2) r2).fL).length : Nat) : Int) = ((r1.fL.length : Nat) : Int)))) (fun h125 => ?_) (fun h125 => ?_)
      ·refine B3 (nF h125) ?_
       refine B0 h95 ?_
       refine B0 h95 ?_
       refine B0 h95 ?_
       refine B0 h95 ?_
       refine B0 h95 ?_
       refine D9 h95 ?_
       refine Ag rfl ?_
       refine Ag rfl ?_
       refine B0 (Bool.eq_false_iff.2 (by (try clear tlJ); intro hq; simp only [Ae, Ab, Av, Bool.and_eq_true, decide_eq_true_eq, decide_eq_false_iff_not] at *; omega)) ?_
       refine B0 (Bool.eq_false_iff.2 (by (try clear tlJ); intro hq; simp only [Ae, Ab, Av, Bool.and_eq_true, decide_eq_true_eq, decide_eq_false_iff_not] at *; omega)) ?_
       refine B0 (Bool.eq_false_iff.2 (by (try clear tlJ); intro hq; simp only [Ae, Ab, Av, Bool.and_eq_true, decide_eq_true_eq, decide_eq_false_iff_not] at *; omega)) ?_
       refine Ag rfl ?_
       refine C4 (Bool.eq_false_iff.2 (by (try clear tlJ); intro hq; simp only [Ae, Ab, Av, Bool.and_eq_true, decide_eq_true_eq, decide_eq_false_iff_not] at *; omega)) ?_
       refine Ag rfl ?_
       refine Ag rfl ?_
       refine Ag rfl ?_
       refine F8 ?_
       refine Ag rfl ?_
       refine Ag (nT (Bool.eq_false_iff.2 (by (try clear tlJ); intro hq; simp only [Ae, Ab, Av, Bool.and_eq_true, decide_eq_true_eq, decide_eq_false_iff_not] at *; omega))) ?_
       refine Af (o' := 0) rfl ?_
       refine Ag (nT (Bool.eq_false_iff.2 (by (try clear tlJ); intro hq; simp only [Ae, Ab, Av, Bool.and_eq_true, decide_eq_true_eq, decide_eq_false_iff_not] at *; omega))) ?_
       refine Ay (c := .sc (.int .i64 ((A1 r14 r15).fHeld))) s124 Vi rfl ?_
       refine Ag (nT (Bool.eq_false_iff.2 (by (try clear tlJ); intro hq; simp only [Ae, Ab, Av, Bool.and_eq_true, decide_eq_true_eq, decide_eq_false_iff_not] at *; omega))) ?_
       refine Af (o' := 0) rfl ?_
       refine Ag (nT (Bool.eq_false_iff.2 (by (try clear tlJ); intro hq; simp only [Ae, Ab, Av, Bool.and_eq_true, decide_eq_true_eq, decide_eq_false_iff_not] at *; omega))) ?_
       refine Ay (c := .sc (.int .i64 r14.fHeld)) s124 Px rfl ?_
       refine Ag (nT (Bool.eq_false_iff.2 (by (try clear tlJ); intro hq; simp only [Ae, Ab, Av, Bool.and_eq_true, decide_eq_true_eq, decide_eq_false_iff_not] at *; omega))) ?_
       refine Bv ?_
       refine Ag rfl ?_
       refine D9 (nT (Bool.eq_false_iff.2 (by (try clear tlJ); intro hq; simp only [Ae, Ab, Av, Bool.and_eq_true, decide_eq_true_eq, decide_eq_false_iff_not] at *; omega))) ?_
       refine Ag rfl ?_
       refine C4 rfl ?_
       refine D9 rfl ?_
       refine Dr rfl ?_
       first | rfl | (simp only [As, Ae, A1, Ab, Av, Bool.and_eq_true, Bool.and_eq_false_iff, decide_eq_true_eq, decide_eq_false_iff_not, beq_iff_eq, bne_iff_ne, beq_eq_false_iff_ne] at *; first | omega | (simp_all; done) | (simp_all; omega) | (exfalso; simp_all; omega))
      ·refine C1 (nT h125) ?_
       refine Dr rfl ?_
       first | rfl | (simp only [As, Ae, A1, Ab, Av, Bool.and_eq_true, Bool.and_eq_false_iff, decide_eq_true_eq, decide_eq_false_iff_not, beq_iff_eq, bne_iff_ne, beq_eq_false_iff_ne] at *; first | omega | (simp_all; done) | (simp_all; omega) | (exfalso; simp_all; omega))
     ·refine B3 h95 ?_
      refine Ag h95 ?_
      refine Af (o' := 0) rfl ?_
      refine Ag h95 ?_
      refine Ay (c := .sc (.int .i64 ((As r1 r2).fHeld))) s26 Fa rfl ?_
      refine Ag h95 ?_
      refine Af (o' := 0) rfl ?_
      refine Ag h95 ?_
      refine Ay (c := .sc (.int .i64 r1.fHeld)) s26 Q0 rfl ?_
      refine Ag h95 ?_
      refine Bv ?_
      refine C4 h95 ?_
      refine Ag (decide_eq_true (Bn h95)) ?_
      refine Ag (decide_eq_true (Bn h95)) ?_
      refine B0 (Bool.eq_false_iff.2 (by (try clear tlJ); intro hq; simp only [Ae, Ab, Av, Bool.and_eq_true, decide_eq_true_eq, decide_eq_false_iff_not] at *; omega)) ?_
      refine B0 (Bool.eq_false_iff.2 (by (try clear tlJ); intro hq; simp only [Ae, Ab, Av, Bool.and_eq_true, decide_eq_true_eq, decide_eq_false_iff_not] at *; omega)) ?_
      refine B0 (Bool.eq_false_iff.2 (by (try clear tlJ); intro hq; simp only [Ae, Ab, Av, Bool.and_eq_true, decide_eq_true_eq, decide_eq_false_iff_not] at *; omega)) ?_
      refine Ag (decide_eq_true (Bn h95)) ?_
      refine C4 (Bool.eq_false_iff.2 (by (try clear tlJ); intro hq; simp only [Ae, Ab, Av, Bool.and_eq_true, decide_eq_true_eq, decide_eq_false_iff_not] at *; omega)) ?_
      refine Ag (decide_eq_true (Bn h95)) ?_
      refine Ag rfl ?_
      refine Ag rfl ?_
      refine F8 ?_
      refine Ag rfl ?_
      refine Ag (nT (Bool.eq_false_iff.2 (by (try clear tlJ); intro hq; simp only [Ae, Ab, Av, Bool.and_eq_true, decide_eq_true_eq, decide_eq_false_iff_not] at *; omega))) ?_
      refine Af (o' := 0) rfl ?_
      refine Ag (nT (Bool.eq_false_iff.2 (by (try clear tlJ); intro hq; simp only [Ae, Ab, Av, Bool.and_eq_true, decide_eq_true_eq, decide_eq_false_iff_not] at *; omega))) ?_
      refine Ay (c := .sc (.int .i64 ((A1 r14 r15).fHeld))) s26 (.here) rfl ?_
      refine Ag (nT (Bool.eq_false_iff.2 (by (try clear tlJ); intro hq; simp only [Ae, Ab, Av, Bool.and_eq_true, decide_eq_true_eq, decide_eq_false_iff_not] at *; omega))) ?_
      refine Af (o' := 0) rfl ?_
      refine Ag (nT (Bool.eq_false_iff.2 (by (try clear tlJ); intro hq; simp only [Ae, Ab, Av, Bool.and_eq_true, decide_eq_true_eq, decide_eq_false_iff_not] at *; omega))) ?_
      refine Ay (c := .sc (.int .i64 r14.fHeld)) s26 Ci rfl ?_
      refine Ag (nT (Bool.eq_false_iff.2 (by (try clear tlJ); intro hq; simp only [Ae, Ab, Av, Bool.and_eq_true, decide_eq_true_eq, decide_eq_false_iff_not] at *; omega))) ?_
      refine Bv ?_
      refine Ag rfl ?_
      refine D9 (nT (Bool.eq_false_iff.2 (by (try clear tlJ); intro hq; simp only [Ae, Ab, Av, Bool.and_eq_true, decide_eq_true_eq, decide_eq_false_iff_not] at *; omega))) ?_
      refine Ag (decide_eq_true (Bn h95)) ?_
      refine C4 rfl ?_
      refine D9 (decide_eq_true (Bn h95)) ?_
      refine Dr rfl ?_
      first | rfl | (simp only [As, Ae, A1, Ab, Av, Bool.and_eq_true, Bool.and_eq_false_iff, decide_eq_true_eq, decide_eq_false_iff_not, beq_iff_eq, bne_iff_ne, beq_eq_false_iff_ne] at *; first | omega | (simp_all; done) | (simp_all; omega) | (exfalso; simp_all; omega))
   ·refine B0 h28 ?_
    refine B0 h28 ?_
    refine C4 h28 ?_
    refine I7 (v := .sc (.bool (!((Ae r1 r2) == false)))) (fun k => rfl) ?_
    refine Ag (nF (by (try clear tlJ); rw [beq_iff_eq, Bool.eq_iff_iff]; simp only [Ae, Ab, Av, Bool.and_eq_true, decide_eq_true_eq, decide_eq_false_iff_not, Bool.false_eq_true, iff_false] at *; omega)) ?_
    refine Ag (nF (by (try clear tlJ); rw [beq_iff_eq, Bool.eq_iff_iff]; simp only [Ae, Ab, Av, Bool.and_eq_true, decide_eq_true_eq, decide_eq_false_iff_not, Bool.false_eq_true, iff_false] at *; omega)) ?_
    refine Af (o' := 0) rfl ?_
    refine Ag (nF (by (try clear tlJ); rw [beq_iff_eq, Bool.eq_iff_iff]; simp only [Ae, Ab, Av, Bool.and_eq_true, decide_eq_true_eq, decide_eq_false_iff_not, Bool.false_eq_true, iff_false] at *; omega)) ?_
    refine Ay (c := .sc (.int .i64 r14.fHeld)) s26 Ci rfl ?_
    refine Ag (nF (by (try clear tlJ); rw [beq_iff_eq, Bool.eq_iff_iff]; simp only [Ae, Ab, Av, Bool.and_eq_true, decide_eq_true_eq, decide_eq_false_iff_not, Bool.false_eq_true, iff_false] at *; omega)) ?_
    refine Ag (nF (by (try clear tlJ); rw [beq_iff_eq, Bool.eq_iff_iff]; simp only [Ae, Ab, Av, Bool.and_eq_true, decide_eq_true_eq, decide_eq_false_iff_not, Bool.false_eq_true, iff_false] at *; omega)) ?_
    refine Bv ?_
    refine Ag (nF (by (try clear tlJ); rw [beq_iff_eq, Bool.eq_iff_iff]; simp only [Ae, Ab, Av, Bool.and_eq_true, decide_eq_true_eq, decide_eq_false_iff_not, Bool.false_eq_true, iff_false] at *; omega)) ?_
    refine Ai ((decide (r14.fHeld = r15))) (fun h126 => ?_) (fun h126 => ?_)
    ·refine Ag h126 ?_
     refine Ag h126 ?_
     refine Aaq ?_
     refine Ag (nF (by (try clear tlJ); rw [beq_iff_eq, Bool.eq_iff_iff]; simp only [Ae, Ab, Av, Bool.and_eq_true, decide_eq_true_eq, decide_eq_false_iff_not, Bool.false_eq_true, iff_false] at *; omega)) ?_
     refine D9 h126 ?_
     refine Ag (nF (by (try clear tlJ); rw [beq_iff_eq, Bool.eq_iff_iff]; simp only [Ae, Ab, Av, Bool.and_eq_true, decide_eq_true_eq, decide_eq_false_iff_not, Bool.false_eq_true, iff_false] at *; omega)) ?_
     refine Ai ((decide (0 ≤ r15))) (fun h127 => ?_) (fun h127 => ?_)
     ·refine Ag h127 ?_
      refine Ag h127 ?_
      refine Hw ?_
      refine Ag (nF (by (try clear tlJ); rw [beq_iff_eq, Bool.eq_iff_iff]; simp only [Ae, Ab, Av, Bool.and_eq_true, decide_eq_true_eq, decide_eq_false_iff_not, Bool.false_eq_true, iff_false] at *; omega)) ?_
      refine D9 h127 ?_
      refine Ag (nF (by (try clear tlJ); rw [beq_iff_eq, Bool.eq_iff_iff]; simp only [Ae, Ab, Av, Bool.and_eq_true, decide_eq_true_eq, decide_eq_false_iff_not, Bool.false_eq_true, iff_false] at *; omega)) ?_
      refine I7 (v := .sc (.bool (!((Ab r14 r15) == (decide (r15 < 8)))))) (fun k => rfl) ?_
      refine C4 (nF (by (try clear tlJ); rw [beq_iff_eq, Bool.eq_iff_iff]; simp only [Ae, Ab, Av, Bool.and_eq_true, decide_eq_true_eq, decide_eq_false_iff_not, Bool.false_eq_true, iff_false] at *; omega)) ?_
      refine B3 (nF (by (try clear tlJ); rw [beq_iff_eq, Bool.eq_iff_iff]; simp only [Ae, Ab, Av, Bool.and_eq_true, decide_eq_true_eq, decide_eq_false_iff_not, Bool.false_eq_true, iff_false] at *; omega)) ?_
      refine F3 ?_
      refine B3 (Bool.eq_false_iff.2 (by (try clear tlJ); intro hq; simp only [Ae, Ab, Av, Bool.and_eq_true, decide_eq_true_eq, decide_eq_false_iff_not] at *; omega)) ?_
      refine Ag (Bool.eq_false_iff.2 (by (try clear tlJ); intro hq; simp only [Ae, Ab, Av, Bool.and_eq_true, decide_eq_true_eq, decide_eq_false_iff_not] at *; omega)) ?_
      refine Af (o' := 0) rfl ?_
      refine Ag (Bool.eq_false_iff.2 (by (try clear tlJ); intro hq; simp only [Ae, Ab, Av, Bool.and_eq_true, decide_eq_true_eq, decide_eq_false_iff_not] at *; omega)) ?_
      refine Ay (c := .sc (.int .i64 ((As r1 r2).fHeld))) s26 Fa rfl ?_
      refine Ag (Bool.eq_false_iff.2 (by (try clear tlJ); intro hq; simp only [Ae, Ab, Av, Bool.and_eq_true, decide_eq_true_eq, decide_eq_false_iff_not] at *; omega)) ?_
      refine Af (o' := 0) rfl ?_
      refine Ag (Bool.eq_false_iff.2 (by (try clear tlJ); intro hq; simp only [Ae, Ab, Av, Bool.and_eq_true, decide_eq_true_eq, decide_eq_false_iff_not] at *; omega)) ?_
      refine Ay (c := .sc (.int .i64 r1.fHeld)) s26 Q0 rfl ?_
      refine Ag (Bool.eq_false_iff.2 (by (try clear tlJ); intro hq; simp only [Ae, Ab, Av, Bool.and_eq_true, decide_eq_true_eq, decide_eq_false_iff_not] at *; omega)) ?_
      refine Bv ?_
      refine C4 (Bool.eq_false_iff.2 (by (try clear tlJ); intro hq; simp only [Ae, Ab, Av, Bool.and_eq_true, decide_eq_true_eq, decide_eq_false_iff_not] at *; omega)) ?_
      refine Ag (decide_eq_true (Bn (Bool.eq_false_iff.2 (by (try clear tlJ); intro hq; simp only [Ae, Ab, Av, Bool.and_eq_true, decide_eq_true_eq, decide_eq_false_iff_not] at *; omega)))) ?_
      refine Ag (decide_eq_true (Bn (Bool.eq_false_iff.2 (by (try clear tlJ); intro hq; simp only [Ae, Ab, Av, Bool.and_eq_true, decide_eq_true_eq, decide_eq_false_iff_not] at *; omega)))) ?_
      refine Ai ((Ab r14 r15)) (fun h128 => ?_) (fun h128 => ?_)
      ·refine Ag h128 ?_
       refine Af (o' := 0) rfl ?_
       refine Ag h128 ?_
       refine Ay (c := .sc (.int .i64 ((A1 r14 r15).fHeld))) s26 (.here) rfl ?_
       refine Ag h128 ?_
       refine Bv ?_
       refine Ag (decide_eq_true (Bn (Bool.eq_false_iff.2 (by (try clear tlJ); intro hq; simp only [Ae, Ab, Av, Bool.and_eq_true, decide_eq_true_eq, decide_eq_false_iff_not] at *; omega)))) ?_
       refine D9 h128 ?_
       refine Ag (decide_eq_true (Bn (Bool.eq_false_iff.2 (by (try clear tlJ); intro hq; simp only [Ae, Ab, Av, Bool.and_eq_true, decide_eq_true_eq, decide_eq_false_iff_not] at *; omega)))) ?_
       refine B0 (decide_eq_true (if_pos h128)) ?_
       refine B0 (decide_eq_true (if_pos h128)) ?_
       refine B0 (decide_eq_true (if_pos h128)) ?_
       refine Jt ?_
       refine Jt ?_
       refine Jt ?_
       refine Jt ?_
       refine Jt ?_
       refine B0 (decide_eq_true (if_pos h128)) ?_
       refine Ag (decide_eq_true (Bn (Bool.eq_false_iff.2 (by (try clear tlJ); intro hq; simp only [Ae, Ab, Av, Bool.and_eq_true, decide_eq_true_eq, decide_eq_false_iff_not] at *; omega)))) ?_
       refine D9 (decide_eq_true (if_pos h128)) ?_
       refine D9 (decide_eq_true (Bn (Bool.eq_false_iff.2 (by (try clear tlJ); intro hq; simp only [Ae, Ab, Av, Bool.and_eq_true, decide_eq_true_eq, decide_eq_false_iff_not] at *; omega)))) ?_
       refine Dr rfl ?_
       first | rfl | (simp only [As, Ae, A1, Ab, Av, Bool.and_eq_true, Bool.and_eq_false_iff, decide_eq_true_eq, decide_eq_false_iff_not, beq_iff_eq, bne_iff_ne, beq_eq_false_iff_ne] at *; first | omega | (simp_all; done) | (simp_all; omega) | (exfalso; simp_all; omega))
      ·refine B0 h128 ?_
       refine B0 h128 ?_
       refine B0 h128 ?_
       refine Ag (decide_eq_true (Bn (Bool.eq_false_iff.2 (by (try clear tlJ); intro hq; simp only [Ae, Ab, Av, Bool.and_eq_true, decide_eq_true_eq, decide_eq_false_iff_not] at *; omega)))) ?_
       refine C4 h128 ?_
       refine Ag (decide_eq_true (Bn (Bool.eq_false_iff.2 (by (try clear tlJ); intro hq; simp only [Ae, Ab, Av, Bool.and_eq_true, decide_eq_true_eq, decide_eq_false_iff_not] at *; omega)))) ?_
       refine Ag rfl ?_
       refine Ag rfl ?_
       refine F8 ?_
       refine Ag rfl ?_
       refine Ag (nT h128) ?_
       refine Af (o' := 0) rfl ?_
       refine Ag (nT h128) ?_
       refine Ay (c := .sc (.int .i64 ((A1 r14 r15).fHeld))) s26 (.here) rfl ?_
       refine Ag (nT h128) ?_
       refine Af (o' := 0) rfl ?_
       refine Ag (nT h128) ?_
       refine Ay (c := .sc (.int .i64 r14.fHeld)) s26 Ci rfl ?_
       refine Ag (nT h128) ?_
       refine Bv ?_
       refine Ag rfl ?_
       refine D9 (nT h128) ?_
       refine Ag (decide_eq_true (Bn (Bool.eq_false_iff.2 (by (try clear tlJ); intro hq; simp only [Ae, Ab, Av, Bool.and_eq_true, decide_eq_true_eq, decide_eq_false_iff_not] at *; omega)))) ?_
       refine C4 rfl ?_
       refine D9 (decide_eq_true (Bn (Bool.eq_false_iff.2 (by (try clear tlJ); intro hq; simp only [Ae, Ab, Av, Bool.and_eq_true, decide_eq_true_eq, decide_eq_false_iff_not] at *; omega)))) ?_
       refine Dr rfl ?_
       first | rfl | (simp only [As, Ae, A1, Ab, Av, Bool.and_eq_true, Bool.and_eq_false_iff, decide_eq_true_eq, decide_eq_false_iff_not, beq_iff_eq, bne_iff_ne, beq_eq_false_iff_ne] at *; first | omega | (simp_all; done) | (simp_all; omega) | (exfalso; simp_all; omega))
     ·refine B0 h127 ?_
      refine B0 h127 ?_
      refine Ag (nF (by (try clear tlJ); rw [beq_iff_eq, Bool.eq_iff_iff]; simp only [Ae, Ab, Av, Bool.and_eq_true, decide_eq_true_eq, decide_eq_false_iff_not, Bool.false_eq_true, iff_false] at *; omega)) ?_
      refine C4 h127 ?_
      refine Ag (nF (by (try clear tlJ); rw [beq_iff_eq, Bool.eq_iff_iff]; simp only [Ae, Ab, Av, Bool.and_eq_true, decide_eq_true_eq, decide_eq_false_iff_not, Bool.false_eq_true, iff_false] at *; omega)) ?_
      refine I7 (v := .sc (.bool (!((Ab r14 r15) == false)))) (fun k => rfl) ?_
      refine C4 (nF (by (try clear tlJ); rw [beq_iff_eq, Bool.eq_iff_iff]; simp only [Ae, Ab, Av, Bool.and_eq_true, decide_eq_true_eq, decide_eq_false_iff_not, Bool.false_eq_true, iff_false] at *; omega)) ?_
      refine B3 (nF (by (try clear tlJ); rw [beq_iff_eq, Bool.eq_iff_iff]; simp only [Ae, Ab, Av, Bool.and_eq_true, decide_eq_true_eq, decide_eq_false_iff_not, Bool.false_eq_true, iff_false] at *; omega)) ?_
      refine F3 ?_
      refine B3 (Bool.eq_false_iff.2 (by (try clear tlJ); intro hq; simp only [Ae, Ab, Av, Bool.and_eq_true, decide_eq_true_eq, decide_eq_false_iff_not] at *; omega)) ?_
      refine Ag (Bool.eq_false_iff.2 (by (try clear tlJ); intro hq; simp only [Ae, Ab, Av, Bool.and_eq_true, decide_eq_true_eq, decide_eq_false_iff_not] at *; omega)) ?_
      refine Af (o' := 0) rfl ?_
      refine Ag (Bool.eq_false_iff.2 (by (try clear tlJ); intro hq; simp only [Ae, Ab, Av, Bool.and_eq_true, decide_eq_true_eq, decide_eq_false_iff_not] at *; omega)) ?_
      refine Ay (c := .sc (.int .i64 ((As r1 r2).fHeld))) s26 Fa rfl ?_
      refine Ag (Bool.eq_false_iff.2 (by (try clear tlJ); intro hq; simp only [Ae, Ab, Av, Bool.and_eq_true, decide_eq_true_eq, decide_eq_false_iff_not] at *; omega)) ?_
      refine Af (o' := 0) rfl ?_
      refine Ag (Bool.eq_false_iff.2 (by (try clear tlJ); intro hq; simp only [Ae, Ab, Av, Bool.and_eq_true, decide_eq_true_eq, decide_eq_false_iff_not] at *; omega)) ?_
      refine Ay (c := .sc (.int .i64 r1.fHeld)) s26 Q0 rfl ?_
      refine Ag (Bool.eq_false_iff.2 (by (try clear tlJ); intro hq; simp only [Ae, Ab, Av, Bool.and_eq_true, decide_eq_true_eq, decide_eq_false_iff_not] at *; omega)) ?_
      refine Bv ?_
      refine C4 (Bool.eq_false_iff.2 (by (try clear tlJ); intro hq; simp only [Ae, Ab, Av, Bool.and_eq_true, decide_eq_true_eq, decide_eq_false_iff_not] at *; omega)) ?_
      refine Ag (decide_eq_true (Bn (Bool.eq_false_iff.2 (by (try clear tlJ); intro hq; simp only [Ae, Ab, Av, Bool.and_eq_true, decide_eq_true_eq, decide_eq_false_iff_not] at *; omega)))) ?_
      refine Ag (decide_eq_true (Bn (Bool.eq_false_iff.2 (by (try clear tlJ); intro hq; simp only [Ae, Ab, Av, Bool.and_eq_true, decide_eq_true_eq, decide_eq_false_iff_not] at *; omega)))) ?_
      refine B0 (Bool.eq_false_iff.2 (by (try clear tlJ); intro hq; simp only [Ae, Ab, Av, Bool.and_eq_true, decide_eq_true_eq, decide_eq_false_iff_not] at *; omega)) ?_
      refine B0 (Bool.eq_false_iff.2 (by (try clear tlJ); intro hq; simp only [Ae, Ab, Av, Bool.and_eq_true, decide_eq_true_eq, decide_eq_false_iff_not] at *; omega)) ?_
      refine B0 (Bool.eq_false_iff.2 (by (try clear tlJ); intro hq; simp only [Ae, Ab, Av, Bool.and_eq_true, decide_eq_true_eq, decide_eq_false_iff_not] at *; omega)) ?_
      refine Ag (decide_eq_true (Bn (Bool.eq_false_iff.2 (by (try clear tlJ); intro hq; simp only [Ae, Ab, Av, Bool.and_eq_true, decide_eq_true_eq, decide_eq_false_iff_not] at *; omega)))) ?_
      refine C4 (Bool.eq_false_iff.2 (by (try clear tlJ); intro hq; simp only [Ae, Ab, Av, Bool.and_eq_true, decide_eq_true_eq, decide_eq_false_iff_not] at *; omega)) ?_
      refine Ag (decide_eq_true (Bn (Bool.eq_false_iff.2 (by (try clear tlJ); intro hq; simp only [Ae, Ab, Av, Bool.and_eq_true, decide_eq_true_eq, decide_eq_false_iff_not] at *; omega)))) ?_
      refine Ag rfl ?_
      refine Ag rfl ?_
      refine F8 ?_
      refine Ag rfl ?_
      refine Ag (nT (Bool.eq_false_iff.2 (by (try clear tlJ); intro hq; simp only [Ae, Ab, Av, Bool.and_eq_true, decide_eq_true_eq, decide_eq_false_iff_not] at *; omega))) ?_
      refine Af (o' := 0) rfl ?_
      refine Ag (nT (Bool.eq_false_iff.2 (by (try clear tlJ); intro hq; simp only [Ae, Ab, Av, Bool.and_eq_true, decide_eq_true_eq, decide_eq_false_iff_not] at *; omega))) ?_
      refine Ay (c := .sc (.int .i64 ((A1 r14 r15).fHeld))) s26 (.here) rfl ?_
      refine Ag (nT (Bool.eq_false_iff.2 (by (try clear tlJ); intro hq; simp only [Ae, Ab, Av, Bool.and_eq_true, decide_eq_true_eq, decide_eq_false_iff_not] at *; omega))) ?_
      refine Af (o' := 0) rfl ?_
      refine Ag (nT (Bool.eq_false_iff.2 (by (try clear tlJ); intro hq; simp only [Ae, Ab, Av, Bool.and_eq_true, decide_eq_true_eq, decide_eq_false_iff_not] at *; omega))) ?_
      refine Ay (c := .sc (.int .i64 r14.fHeld)) s26 Ci rfl ?_
      refine Ag (nT (Bool.eq_false_iff.2 (by (try clear tlJ); intro hq; simp only [Ae, Ab, Av, Bool.and_eq_true, decide_eq_true_eq, decide_eq_false_iff_not] at *; omega))) ?_
      refine Bv ?_
      refine Ag rfl ?_
      refine D9 (nT (Bool.eq_false_iff.2 (by (try clear tlJ); intro hq; simp only [Ae, Ab, Av, Bool.and_eq_true, decide_eq_true_eq, decide_eq_false_iff_not] at *; omega))) ?_
      refine Ag (decide_eq_true (Bn (Bool.eq_false_iff.2 (by (try clear tlJ); intro hq; simp only [Ae, Ab, Av, Bool.and_eq_true, decide_eq_true_eq, decide_eq_false_iff_not] at *; omega)))) ?_
      refine C4 rfl ?_
      refine D9 (decide_eq_true (Bn (Bool.eq_false_iff.2 (by (try clear tlJ); intro hq; simp only [Ae, Ab, Av, Bool.and_eq_true, decide_eq_true_eq, decide_eq_false_iff_not] at *; omega)))) ?_
      refine Dr rfl ?_
      first | rfl | (simp only [As, Ae, A1, Ab, Av, Bool.and_eq_true, Bool.and_eq_false_iff, decide_eq_true_eq, decide_eq_false_iff_not, beq_iff_eq, bne_iff_ne, beq_eq_false_iff_ne] at *; first | omega | (simp_all; done) | (simp_all; omega) | (exfalso; simp_all; omega))
    ·refine B0 h126 ?_
     refine B0 h126 ?_
     refine Ag (nF (by (try clear tlJ); rw [beq_iff_eq, Bool.eq_iff_iff]; simp only [Ae, Ab, Av, Bool.and_eq_true, decide_eq_true_eq, decide_eq_false_iff_not, Bool.false_eq_true, iff_false] at *; omega)) ?_
     refine C4 h126 ?_
     refine Ag (nF (by (try clear tlJ); rw [beq_iff_eq, Bool.eq_iff_iff]; simp only [Ae, Ab, Av, Bool.and_eq_true, decide_eq_true_eq, decide_eq_false_iff_not, Bool.false_eq_true, iff_false] at *; omega)) ?_
     refine B0 rfl ?_
     refine B0 rfl ?_
     refine Ag (nF (by (try clear tlJ); rw [beq_iff_eq, Bool.eq_iff_iff]; simp only [Ae, Ab, Av, Bool.and_eq_true, decide_eq_true_eq, decide_eq_false_iff_not, Bool.false_eq_true, iff_false] at *; omega)) ?_
     refine C4 rfl ?_
     refine Ag (nF (by (try clear tlJ); rw [beq_iff_eq, Bool.eq_iff_iff]; simp only [Ae, Ab, Av, Bool.and_eq_true, decide_eq_true_eq, decide_eq_false_iff_not, Bool.false_eq_true, iff_false] at *; omega)) ?_
     refine I7 (v := .sc (.bool (!((Ab r14 r15) == false)))) (fun k => rfl) ?_
     refine C4 (nF (by (try clear tlJ); rw [beq_iff_eq, Bool.eq_iff_iff]; simp only [Ae, Ab, Av, Bool.and_eq_true, decide_eq_true_eq, decide_eq_false_iff_not, Bool.false_eq_true, iff_false] at *; omega)) ?_
     refine B3 (nF (by (try clear tlJ); rw [beq_iff_eq, Bool.eq_iff_iff]; simp only [Ae, Ab, Av, Bool.and_eq_true, decide_eq_true_eq, decide_eq_false_iff_not, Bool.false_eq_true, iff_false] at *; omega)) ?_
     refine F3 ?_
     refine B3 (Bool.eq_false_iff.2 (by (try clear tlJ); intro hq; simp only [Ae, Ab, Av, Bool.and_eq_true, decide_eq_true_eq, decide_eq_false_iff_not] at *; omega)) ?_
     refine Ag (Bool.eq_false_iff.2 (by (try clear tlJ); intro hq; simp only [Ae, Ab, Av, Bool.and_eq_true, decide_eq_true_eq, decide_eq_false_iff_not] at *; omega)) ?_
     refine Af (o' := 0) rfl ?_
     refine Ag (Bool.eq_false_iff.2 (by (try clear tlJ); intro hq; simp only [Ae, Ab, Av, Bool.and_eq_true, decide_eq_true_eq, decide_eq_false_iff_not] at *; omega)) ?_
     refine Ay (c := .sc (.int .i64 ((As r1 r2).fHeld))) s26 Fa rfl ?_
     refine Ag (Bool.eq_false_iff.2 (by (try clear tlJ); intro hq; simp only [Ae, Ab, Av, Bool.and_eq_true, decide_eq_true_eq, decide_eq_false_iff_not] at *; omega)) ?_
     refine Af (o' := 0) rfl ?_
     refine Ag (Bool.eq_false_iff.2 (by (try clear tlJ); intro hq; simp only [Ae, Ab, Av, Bool.and_eq_true, decide_eq_true_eq, decide_eq_false_iff_not] at *; omega)) ?_
     refine Ay (c := .sc (.int .i64 r1.fHeld)) s26 Q0 rfl ?_
     refine Ag (Bool.eq_false_iff.2 (by (try clear tlJ); intro hq; simp only [Ae, Ab, Av, Bool.and_eq_true, decide_eq_true_eq, decide_eq_false_iff_not] at *; omega)) ?_
     refine Bv ?_
     refine C4 (Bool.eq_false_iff.2 (by (try clear tlJ); intro hq; simp only [Ae, Ab, Av, Bool.and_eq_true, decide_eq_true_eq, decide_eq_false_iff_not] at *; omega)) ?_
     refine Ag (decide_eq_true (Bn (Bool.eq_false_iff.2 (by (try clear tlJ); intro hq; simp only [Ae, Ab, Av, Bool.and_eq_true, decide_eq_true_eq, decide_eq_false_iff_not] at *; omega)))) ?_
     refine Ag (decide_eq_true (Bn (Bool.eq_false_iff.2 (by (try clear tlJ); intro hq; simp only [Ae, Ab, Av, Bool.and_eq_true, decide_eq_true_eq, decide_eq_false_iff_not] at *; omega)))) ?_
     refine B0 (Bool.eq_false_iff.2 (by (try clear tlJ); intro hq; simp only [Ae, Ab, Av, Bool.and_eq_true, decide_eq_true_eq, decide_eq_false_iff_not] at *; omega)) ?_
     refine B0 (Bool.eq_false_iff.2 (by (try clear tlJ); intro hq; simp only [Ae, Ab, Av, Bool.and_eq_true, decide_eq_true_eq, decide_eq_false_iff_not] at *; omega)) ?_
     refine B0 (Bool.eq_false_iff.2 (by (try clear tlJ); intro hq; simp only [Ae, Ab, Av, Bool.and_eq_true, decide_eq_true_eq, decide_eq_false_iff_not] at *; omega)) ?_
     refine Ag (decide_eq_true (Bn (Bool.eq_false_iff.2 (by (try clear tlJ); intro hq; simp only [Ae, Ab, Av, Bool.and_eq_true, decide_eq_true_eq, decide_eq_false_iff_not] at *; omega)))) ?_
     refine C4 (Bool.eq_false_iff.2 (by (try clear tlJ); intro hq; simp only [Ae, Ab, Av, Bool.and_eq_true, decide_eq_true_eq, decide_eq_false_iff_not] at *; omega)) ?_
     refine Ag (decide_eq_true (Bn (Bool.eq_false_iff.2 (by (try clear tlJ); intro hq; simp only [Ae, Ab, Av, Bool.and_eq_true, decide_eq_true_eq, decide_eq_false_iff_not] at *; omega)))) ?_
     refine Ag rfl ?_
     refine Ag rfl ?_
     refine F8 ?_
     refine Ag rfl ?_
     refine Ag (nT (Bool.eq_false_iff.2 (by (try clear tlJ); intro hq; simp only [Ae, Ab, Av, Bool.and_eq_true, decide_eq_true_eq, decide_eq_false_iff_not] at *; omega))) ?_
     refine Af (o' := 0) rfl ?_
     refine Ag (nT (Bool.eq_false_iff.2 (by (try clear tlJ); intro hq; simp only [Ae, Ab, Av, Bool.and_eq_true, decide_eq_true_eq, decide_eq_false_iff_not] at *; omega))) ?_
     refine Ay (c := .sc (.int .i64 ((A1 r14 r15).fHeld))) s26 (.here) rfl ?_
     refine Ag (nT (Bool.eq_false_iff.2 (by (try clear tlJ); intro hq; simp only [Ae, Ab, Av, Bool.and_eq_true, decide_eq_true_eq, decide_eq_false_iff_not] at *; omega))) ?_
     refine Af (o' := 0) rfl ?_
     refine Ag (nT (Bool.eq_false_iff.2 (by (try clear tlJ); intro hq; simp only [Ae, Ab, Av, Bool.and_eq_true, decide_eq_true_eq, decide_eq_false_iff_not] at *; omega))) ?_
     refine Ay (c := .sc (.int .i64 r14.fHeld)) s26 Ci rfl ?_
     refine Ag (nT (Bool.eq_false_iff.2 (by (try clear tlJ); intro hq; simp only [Ae, Ab, Av, Bool.and_eq_true, decide_eq_true_eq, decide_eq_false_iff_not] at *; omega))) ?_
     refine Bv ?_
     refine Ag rfl ?_
     refine D9 (nT (Bool.eq_false_iff.2 (by (try clear tlJ); intro hq; simp only [Ae, Ab, Av, Bool.and_eq_true, decide_eq_true_eq, decide_eq_false_iff_not] at *; omega))) ?_
     refine Ag (decide_eq_true (Bn (Bool.eq_false_iff.2 (by (try clear tlJ); intro hq; simp only [Ae, Ab, Av, Bool.and_eq_true, decide_eq_true_eq, decide_eq_false_iff_not] at *; omega)))) ?_
     refine C4 rfl ?_
     refine D9 (decide_eq_true (Bn (Bool.eq_false_iff.2 (by (try clear tlJ); intro hq; simp only [Ae, Ab, Av, Bool.and_eq_true, decide_eq_true_eq, decide_eq_false_iff_not] at *; omega)))) ?_
     refine Dr rfl ?_
     first | rfl | (simp only [As, Ae, A1, Ab, Av, Bool.and_eq_true, Bool.and_eq_false_iff, decide_eq_true_eq, decide_eq_false_iff_not, beq_iff_eq, bne_iff_ne, beq_eq_false_iff_ne] at *; first | omega | (simp_all; done) | (simp_all; omega) | (exfalso; simp_all; omega))
  ·refine B0 h27 ?_
   refine B0 h27 ?_
   refine C4 h27 ?_
   refine B0 rfl ?_
   refine B0 rfl ?_
   refine C4 rfl ?_
   refine I7 (v := .sc (.bool (!((Ae r1 r2) == false)))) (fun k => rfl) ?_
   refine Ag (nF (by (try clear tlJ); rw [beq_iff_eq, Bool.eq_iff_iff]; simp only [Ae, Ab, Av, Bool.and_eq_true, decide_eq_true_eq, decide_eq_false_iff_not, Bool.false_eq_true, iff_false] at *; omega)) ?_
   refine Ag (nF (by (try clear tlJ); rw [beq_iff_eq, Bool.eq_iff_iff]; simp only [Ae, Ab, Av, Bool.and_eq_true, decide_eq_true_eq, decide_eq_false_iff_not, Bool.false_eq_true, iff_false] at *; omega)) ?_
   refine Af (o' := 0) rfl ?_
   refine Ag (nF (by (try clear tlJ); rw [beq_iff_eq, Bool.eq_iff_iff]; simp only [Ae, Ab, Av, Bool.and_eq_true, decide_eq_true_eq, decide_eq_false_iff_not, Bool.false_eq_true, iff_false] at *; omega)) ?_
   refine Ay (c := .sc (.int .i64 r14.fHeld)) s26 Ci rfl ?_
   refine Ag (nF (by (try clear tlJ); rw [beq_iff_eq, Bool.eq_iff_iff]; simp only [Ae, Ab, Av, Bool.and_eq_true, decide_eq_true_eq, decide_eq_false_iff_not, Bool.false_eq_true, iff_false] at *; omega)) ?_
   refine Ag (nF (by (try clear tlJ); rw [beq_iff_eq, Bool.eq_iff_iff]; simp only [Ae, Ab, Av, Bool.and_eq_true, decide_eq_true_eq, decide_eq_false_iff_not, Bool.false_eq_true, iff_false] at *; omega)) ?_
   refine Bv ?_
   refine Ag (nF (by (try clear tlJ); rw [beq_iff_eq, Bool.eq_iff_iff]; simp only [Ae, Ab, Av, Bool.and_eq_true, decide_eq_true_eq, decide_eq_false_iff_not, Bool.false_eq_true, iff_false] at *; omega)) ?_
   refine Ai ((decide (r14.fHeld = r15))) (fun h129 => ?_) (fun h129 => ?_)
   ·refine Ag h129 ?_
    refine Ag h129 ?_
    refine Aaq ?_
    refine Ag (nF (by (try clear tlJ); rw [beq_iff_eq, Bool.eq_iff_iff]; simp only [Ae, Ab, Av, Bool.and_eq_true, decide_eq_true_eq, decide_eq_false_iff_not, Bool.false_eq_true, iff_false] at *; omega)) ?_
    refine D9 h129 ?_
    refine Ag (nF (by (try clear tlJ); rw [beq_iff_eq, Bool.eq_iff_iff]; simp only [Ae, Ab, Av, Bool.and_eq_true, decide_eq_true_eq, decide_eq_false_iff_not, Bool.false_eq_true, iff_false] at *; omega)) ?_
    refine Ai ((decide (0 ≤ r15))) (fun h130 => ?_) (fun h130 => ?_)
    ·refine Ag h130 ?_
     refine Ag h130 ?_
     refine Hw ?_
     refine Ag (nF (by (try clear tlJ); rw [beq_iff_eq, Bool.eq_iff_iff]; simp only [Ae, Ab, Av, Bool.and_eq_true, decide_eq_true_eq, decide_eq_false_iff_not, Bool.false_eq_true, iff_false] at *; omega)) ?_
     refine D9 h130 ?_
     refine Ag (nF (by (try clear tlJ); rw [beq_iff_eq, Bool.eq_iff_iff]; simp only [Ae, Ab, Av, Bool.and_eq_true, decide_eq_true_eq, decide_eq_false_iff_not, Bool.false_eq_true, iff_false] at *; omega)) ?_
     refine I7 (v := .sc (.bool (!((Ab r14 r15) == (decide (r15 < 8)))))) (fun k => rfl) ?_
     refine C4 (nF (by (try clear tlJ); rw [beq_iff_eq, Bool.eq_iff_iff]; simp only [Ae, Ab, Av, Bool.and_eq_true, decide_eq_true_eq, decide_eq_false_iff_not, Bool.false_eq_true, iff_false] at *; omega)) ?_
     refine B3 (nF (by (try clear tlJ); rw [beq_iff_eq, Bool.eq_iff_iff]; simp only [Ae, Ab, Av, Bool.and_eq_true, decide_eq_true_eq, decide_eq_false_iff_not, Bool.false_eq_true, iff_false] at *; omega)) ?_
     refine F3 ?_
     refine B3 (Bool.eq_false_iff.2 (by (try clear tlJ); intro hq; simp only [Ae, Ab, Av, Bool.and_eq_true, decide_eq_true_eq, decide_eq_false_iff_not] at *; omega)) ?_
     refine Ag (Bool.eq_false_iff.2 (by (try clear tlJ); intro hq; simp only [Ae, Ab, Av, Bool.and_eq_true, decide_eq_true_eq, decide_eq_false_iff_not] at *; omega)) ?_
     refine Af (o' := 0) rfl ?_
     refine Ag (Bool.eq_false_iff.2 (by (try clear tlJ); intro hq; simp only [Ae, Ab, Av, Bool.and_eq_true, decide_eq_true_eq, decide_eq_false_iff_not] at *; omega)) ?_
     refine Ay (c := .sc (.int .i64 ((As r1 r2).fHeld))) s26 Fa rfl ?_
     refine Ag (Bool.eq_false_iff.2 (by (try clear tlJ); intro hq; simp only [Ae, Ab, Av, Bool.and_eq_true, decide_eq_true_eq, decide_eq_false_iff_not] at *; omega)) ?_
     refine Af (o' := 0) rfl ?_
     refine Ag (Bool.eq_false_iff.2 (by (try clear tlJ); intro hq; simp only [Ae, Ab, Av, Bool.and_eq_true, decide_eq_true_eq, decide_eq_false_iff_not] at *; omega)) ?_
     refine Ay (c := .sc (.int .i64 r1.fHeld)) s26 Q0 rfl ?_
     refine Ag (Bool.eq_false_iff.2 (by (try clear tlJ); intro hq; simp only [Ae, Ab, Av, Bool.and_eq_true, decide_eq_true_eq, decide_eq_false_iff_not] at *; omega)) ?_
     refine Bv ?_
     refine C4 (Bool.eq_false_iff.2 (by (try clear tlJ); intro hq; simp only [Ae, Ab, Av, Bool.and_eq_true, decide_eq_true_eq, decide_eq_false_iff_not] at *; omega)) ?_
     refine Ag (decide_eq_true (Bn (Bool.eq_false_iff.2 (by (try clear tlJ); intro hq; simp only [Ae, Ab, Av, Bool.and_eq_true, decide_eq_true_eq, decide_eq_false_iff_not] at *; omega)))) ?_
     refine Ag (decide_eq_true (Bn (Bool.eq_false_iff.2 (by (try clear tlJ); intro hq; simp only [Ae, Ab, Av, Bool.and_eq_true, decide_eq_true_eq, decide_eq_false_iff_not] at *; omega)))) ?_
     refine Ai ((Ab r14 r15)) (fun h131 => ?_) (fun h131 => ?_)
     ·refine Ag h131 ?_
      refine Af (o' := 0) rfl ?_
      refine Ag h131 ?_
      refine Ay (c := .sc (.int .i64 ((A1 r14 r15).fHeld))) s26 (.here) rfl ?_
      refine Ag h131 ?_
      refine Bv ?_
      refine Ag (decide_eq_true (Bn (Bool.eq_false_iff.2 (by (try clear tlJ); intro hq; simp only [Ae, Ab, Av, Bool.and_eq_true, decide_eq_true_eq, decide_eq_false_iff_not] at *; omega)))) ?_
      refine D9 h131 ?_
      refine Ag (decide_eq_true (Bn (Bool.eq_false_iff.2 (by (try clear tlJ); intro hq; simp only [Ae, Ab, Av, Bool.and_eq_true, decide_eq_true_eq, decide_eq_false_iff_not] at *; omega)))) ?_
      refine B0 (decide_eq_true (if_pos h131)) ?_
      refine B0 (decide_eq_true (if_pos h131)) ?_
      refine B0 (decide_eq_true (if_pos h131)) ?_
      refine Jt ?_
      refine Jt ?_
      refine Jt ?_
      refine Jt ?_
      refine Jt ?_
      refine B0 (decide_eq_true (if_pos h131)) ?_
      refine Ag (decide_eq_true (Bn (Bool.eq_false_iff.2 (by (try clear tlJ); intro hq; simp only [Ae, Ab, Av, Bool.and_eq_true, decide_eq_true_eq, decide_eq_false_iff_not] at *; omega)))) ?_
      refine D9 (decide_eq_true (if_pos h131)) ?_
      refine D9 (decide_eq_true (Bn (Bool.eq_false_iff.2 (by (try clear tlJ); intro hq; simp only [Ae, Ab, Av, Bool.and_eq_true, decide_eq_true_eq, decide_eq_false_iff_not] at *; omega)))) ?_
      refine Dr rfl ?_
      first | rfl | (simp only [As, Ae, A1, Ab, Av, Bool.and_eq_true, Bool.and_eq_false_iff, decide_eq_true_eq, decide_eq_false_iff_not, beq_iff_eq, bne_iff_ne, beq_eq_false_iff_ne] at *; first | omega | (simp_all; done) | (simp_all; omega) | (exfalso; simp_all; omega))
     ·refine B0 h131 ?_
      refine B0 h131 ?_
      refine B0 h131 ?_
      refine Ag (decide_eq_true (Bn (Bool.eq_false_iff.2 (by (try clear tlJ); intro hq; simp only [Ae, Ab, Av, Bool.and_eq_true, decide_eq_true_eq, decide_eq_false_iff_not] at *; omega)))) ?_
      refine C4 h131 ?_
      refine Ag (decide_eq_true (Bn (Bool.eq_false_iff.2 (by (try clear tlJ); intro hq; simp only [Ae, Ab, Av, Bool.and_eq_true, decide_eq_true_eq, decide_eq_false_iff_not] at *; omega)))) ?_
      refine Ag rfl ?_
      refine Ag rfl ?_
      refine F8 ?_
      refine Ag rfl ?_
      refine Ag (nT h131) ?_
      refine Af (o' := 0) rfl ?_
      refine Ag (nT h131) ?_
      refine Ay (c := .sc (.int .i64 ((A1 r14 r15).fHeld))) s26 (.here) rfl ?_
      refine Ag (nT h131) ?_
      refine Af (o' := 0) rfl ?_
      refine Ag (nT h131) ?_
      refine Ay (c := .sc (.int .i64 r14.fHeld)) s26 Ci rfl ?_
      refine Ag (nT h131) ?_
      refine Bv ?_
      refine Ag rfl ?_
      refine D9 (nT h131) ?_
      refine Ag (decide_eq_true (Bn (Bool.eq_false_iff.2 (by (try clear tlJ); intro hq; simp only [Ae, Ab, Av, Bool.and_eq_true, decide_eq_true_eq, decide_eq_false_iff_not] at *; omega)))) ?_
      refine C4 rfl ?_
      refine D9 (decide_eq_true (Bn (Bool.eq_false_iff.2 (by (try clear tlJ); intro hq; simp only [Ae, Ab, Av, Bool.and_eq_true, decide_eq_true_eq, decide_eq_false_iff_not] at *; omega)))) ?_
      refine Dr rfl ?_
      first | rfl | (simp only [As, Ae, A1, Ab, Av, Bool.and_eq_true, Bool.and_eq_false_iff, decide_eq_true_eq, decide_eq_false_iff_not, beq_iff_eq, bne_iff_ne, beq_eq_false_iff_ne] at *; first | omega | (simp_all; done) | (simp_all; omega) | (exfalso; simp_all; omega))
    ·refine B0 h130 ?_
     refine B0 h130 ?_
     refine Ag (nF (by (try clear tlJ); rw [beq_iff_eq, Bool.eq_iff_iff]; simp only [Ae, Ab, Av, Bool.and_eq_true, decide_eq_true_eq, decide_eq_false_iff_not, Bool.false_eq_true, iff_false] at *; omega)) ?_
     refine C4 h130 ?_
     refine Ag (nF (by (try clear tlJ); rw [beq_iff_eq, Bool.eq_iff_iff]; simp only [Ae, Ab, Av, Bool.and_eq_true, decide_eq_true_eq, decide_eq_false_iff_not, Bool.false_eq_true, iff_false] at *; omega)) ?_
     refine I7 (v := .sc (.bool (!((Ab r14 r15) == false)))) (fun k => rfl) ?_
     refine C4 (nF (by (try clear tlJ); rw [beq_iff_eq, Bool.eq_iff_iff]; simp only [Ae, Ab, Av, Bool.and_eq_true, decide_eq_true_eq, decide_eq_false_iff_not, Bool.false_eq_true, iff_false] at *; omega)) ?_
     refine B3 (nF (by (try clear tlJ); rw [beq_iff_eq, Bool.eq_iff_iff]; simp only [Ae, Ab, Av, Bool.and_eq_true, decide_eq_true_eq, decide_eq_false_iff_not, Bool.false_eq_true, iff_false] at *; omega)) ?_
     refine F3 ?_
     refine B3 (Bool.eq_false_iff.2 (by (try clear tlJ); intro hq; simp only [Ae, Ab, Av, Bool.and_eq_true, decide_eq_true_eq, decide_eq_false_iff_not] at *; omega)) ?_
     refine Ag (Bool.eq_false_iff.2 (by (try clear tlJ); intro hq; simp only [Ae, Ab, Av, Bool.and_eq_true, decide_eq_true_eq, decide_eq_false_iff_not] at *; omega)) ?_
     refine Af (o' := 0) rfl ?_
     refine Ag (Bool.eq_false_iff.2 (by (try clear tlJ); intro hq; simp only [Ae, Ab, Av, Bool.and_eq_true, decide_eq_true_eq, decide_eq_false_iff_not] at *; omega)) ?_
     refine Ay (c := .sc (.int .i64 ((As r1 r2).fHeld))) s26 Fa rfl ?_
     refine Ag (Bool.eq_false_iff.2 (by (try clear tlJ); intro hq; simp only [Ae, Ab, Av, Bool.and_eq_true, decide_eq_true_eq, decide_eq_false_iff_not] at *; omega)) ?_
     refine Af (o' := 0) rfl ?_
     refine Ag (Bool.eq_false_iff.2 (by (try clear tlJ); intro hq; simp only [Ae, Ab, Av, Bool.and_eq_true, decide_eq_true_eq, decide_eq_false_iff_not] at *; omega)) ?_
     refine Ay (c := .sc (.int .i64 r1.fHeld)) s26 Q0 rfl ?_
     refine Ag (Bool.eq_false_iff.2 (by (try clear tlJ); intro hq; simp only [Ae, Ab, Av, Bool.and_eq_true, decide_eq_true_eq, decide_eq_false_iff_not] at *; omega)) ?_
     refine Bv ?_
     refine C4 (Bool.eq_false_iff.2 (by (try clear tlJ); intro hq; simp only [Ae, Ab, Av, Bool.and_eq_true, decide_eq_true_eq, decide_eq_false_iff_not] at *; omega)) ?_
     refine Ag (decide_eq_true (Bn (Bool.eq_false_iff.2 (by (try clear tlJ); intro hq; simp only [Ae, Ab, Av, Bool.and_eq_true, decide_eq_true_eq, decide_eq_false_iff_not] at *; omega)))) ?_
     refine Ag (decide_eq_true (Bn (Bool.eq_false_iff.2 (by (try clear tlJ); intro hq; simp only [Ae, Ab, Av, Bool.and_eq_true, decide_eq_true_eq, decide_eq_false_iff_not] at *; omega)))) ?_
     refine B0 (Bool.eq_false_iff.2 (by (try clear tlJ); intro hq; simp only [Ae, Ab, Av, Bool.and_eq_true, decide_eq_true_eq, decide_eq_false_iff_not] at *; omega)) ?_
     refine B0 (Bool.eq_false_iff.2 (by (try clear tlJ); intro hq; simp only [Ae, Ab, Av, Bool.and_eq_true, decide_eq_true_eq, decide_eq_false_iff_not] at *; omega)) ?_
     refine B0 (Bool.eq_false_iff.2 (by (try clear tlJ); intro hq; simp only [Ae, Ab, Av, Bool.and_eq_true, decide_eq_true_eq, decide_eq_false_iff_not] at *; omega)) ?_
     refine Ag (decide_eq_true (Bn (Bool.eq_false_iff.2 (by (try clear tlJ); intro hq; simp only [Ae, Ab, Av, Bool.and_eq_true, decide_eq_true_eq, decide_eq_false_iff_not] at *; omega)))) ?_
     refine C4 (Bool.eq_false_iff.2 (by (try clear tlJ); intro hq; simp only [Ae, Ab, Av, Bool.and_eq_true, decide_eq_true_eq, decide_eq_false_iff_not] at *; omega)) ?_
     refine Ag (decide_eq_true (Bn (Bool.eq_false_iff.2 (by (try clear tlJ); intro hq; simp only [Ae, Ab, Av, Bool.and_eq_true, decide_eq_true_eq, decide_eq_false_iff_not] at *; omega)))) ?_
     refine Ag rfl ?_
     refine Ag rfl ?_
     refine F8 ?_
     refine Ag rfl ?_
     refine Ag (nT (Bool.eq_false_iff.2 (by (try clear tlJ); intro hq; simp only [Ae, Ab, Av, Bool.and_eq_true, decide_eq_true_eq, decide_eq_false_iff_not] at *; omega))) ?_
     refine Af (o' := 0) rfl ?_
     refine Ag (nT (Bool.eq_false_iff.2 (by (try clear tlJ); intro hq; simp only [Ae, Ab, Av, Bool.and_eq_true, decide_eq_true_eq, decide_eq_false_iff_not] at *; omega))) ?_
     refine Ay (c := .sc (.int .i64 ((A1 r14 r15).fHeld))) s26 (.here) rfl ?_
     refine Ag (nT (Bool.eq_false_iff.2 (by (try clear tlJ); intro hq; simp only [Ae, Ab, Av, Bool.and_eq_true, decide_eq_true_eq, decide_eq_false_iff_not] at *; omega))) ?_
     refine Af (o' := 0) rfl ?_
     refine Ag (nT (Bool.eq_false_iff.2 (by (try clear tlJ); intro hq; simp only [Ae, Ab, Av, Bool.and_eq_true, decide_eq_true_eq, decide_eq_false_iff_not] at *; omega))) ?_
     refine Ay (c := .sc (.int .i64 r14.fHeld)) s26 Ci rfl ?_
     refine Ag (nT (Bool.eq_false_iff.2 (by (try clear tlJ); intro hq; simp only [Ae, Ab, Av, Bool.and_eq_true, decide_eq_true_eq, decide_eq_false_iff_not] at *; omega))) ?_
     refine Bv ?_
     refine Ag rfl ?_
     refine D9 (nT (Bool.eq_false_iff.2 (by (try clear tlJ); intro hq; simp only [Ae, Ab, Av, Bool.and_eq_true, decide_eq_true_eq, decide_eq_false_iff_not] at *; omega))) ?_
     refine Ag (decide_eq_true (Bn (Bool.eq_false_iff.2 (by (try clear tlJ); intro hq; simp only [Ae, Ab, Av, Bool.and_eq_true, decide_eq_true_eq, decide_eq_false_iff_not] at *; omega)))) ?_
     refine C4 rfl ?_
     refine D9 (decide_eq_true (Bn (Bool.eq_false_iff.2 (by (try clear tlJ); intro hq; simp only [Ae, Ab, Av, Bool.and_eq_true, decide_eq_true_eq, decide_eq_false_iff_not] at *; omega)))) ?_
     refine Dr rfl ?_
     first | rfl | (simp only [As, Ae, A1, Ab, Av, Bool.and_eq_true, Bool.and_eq_false_iff, decide_eq_true_eq, decide_eq_false_iff_not, beq_iff_eq, bne_iff_ne, beq_eq_false_iff_ne] at *; first | omega | (simp_all; done) | (simp_all; omega) | (exfalso; simp_all; omega))
   ·refine B0 h129 ?_
    refine B0 h129 ?_
    refine Ag (nF (by (try clear tlJ); rw [beq_iff_eq, Bool.eq_iff_iff]; simp only [Ae, Ab, Av, Bool.and_eq_true, decide_eq_true_eq, decide_eq_false_iff_not, Bool.false_eq_true, iff_false] at *; omega)) ?_
    refine C4 h129 ?_
    refine Ag (nF (by (try clear tlJ); rw [beq_iff_eq, Bool.eq_iff_iff]; simp only [Ae, Ab, Av, Bool.and_eq_true, decide_eq_true_eq, decide_eq_false_iff_not, Bool.false_eq_true, iff_false] at *; omega)) ?_
    refine B0 rfl ?_
    refine B0 rfl ?_
    refine Ag (nF (by (try clear tlJ); rw [beq_iff_eq, Bool.eq_iff_iff]; simp only [Ae, Ab, Av, Bool.and_eq_true, decide_eq_true_eq, decide_eq_false_iff_not, Bool.false_eq_true, iff_false] at *; omega)) ?_
    refine C4 rfl ?_
    refine Ag (nF (by (try clear tlJ); rw [beq_iff_eq, Bool.eq_iff_iff]; simp only [Ae, Ab, Av, Bool.and_eq_true, decide_eq_true_eq, decide_eq_false_iff_not, Bool.false_eq_true, iff_false] at *; omega)) ?_
    refine I7 (v := .sc (.bool (!((Ab r14 r15) == false)))) (fun k => rfl) ?_
    refine C4 (nF (by (try clear tlJ); rw [beq_iff_eq, Bool.eq_iff_iff]; simp only [Ae, Ab, Av, Bool.and_eq_true, decide_eq_true_eq, decide_eq_false_iff_not, Bool.false_eq_true, iff_false] at *; omega)) ?_
    refine B3 (nF (by (try clear tlJ); rw [beq_iff_eq, Bool.eq_iff_iff]; simp only [Ae, Ab, Av, Bool.and_eq_true, decide_eq_true_eq, decide_eq_false_iff_not, Bool.false_eq_true, iff_false] at *; omega)) ?_
    refine F3 ?_
    refine B3 (Bool.eq_false_iff.2 (by (try clear tlJ); intro hq; simp only [Ae, Ab, Av, Bool.and_eq_true, decide_eq_true_eq, decide_eq_false_iff_not] at *; omega)) ?_
    refine Ag (Bool.eq_false_iff.2 (by (try clear tlJ); intro hq; simp only [Ae, Ab, Av, Bool.and_eq_true, decide_eq_true_eq, decide_eq_false_iff_not] at *; omega)) ?_
    refine Af (o' := 0) rfl ?_
    refine Ag (Bool.eq_false_iff.2 (by (try clear tlJ); intro hq; simp only [Ae, Ab, Av, Bool.and_eq_true, decide_eq_true_eq, decide_eq_false_iff_not] at *; omega)) ?_
    refine Ay (c := .sc (.int .i64 ((As r1 r2).fHeld))) s26 Fa rfl ?_
    refine Ag (Bool.eq_false_iff.2 (by (try clear tlJ); intro hq; simp only [Ae, Ab, Av, Bool.and_eq_true, decide_eq_true_eq, decide_eq_false_iff_not] at *; omega)) ?_
    refine Af (o' := 0) rfl ?_
    refine Ag (Bool.eq_false_iff.2 (by (try clear tlJ); intro hq; simp only [Ae, Ab, Av, Bool.and_eq_true, decide_eq_true_eq, decide_eq_false_iff_not] at *; omega)) ?_
    refine Ay (c := .sc (.int .i64 r1.fHeld)) s26 Q0 rfl ?_
    refine Ag (Bool.eq_false_iff.2 (by (try clear tlJ); intro hq; simp only [Ae, Ab, Av, Bool.and_eq_true, decide_eq_true_eq, decide_eq_false_iff_not] at *; omega)) ?_
    refine Bv ?_
    refine C4 (Bool.eq_false_iff.2 (by (try clear tlJ); intro hq; simp only [Ae, Ab, Av, Bool.and_eq_true, decide_eq_true_eq, decide_eq_false_iff_not] at *; omega)) ?_
    refine Ag (decide_eq_true (Bn (Bool.eq_false_iff.2 (by (try clear tlJ); intro hq; simp only [Ae, Ab, Av, Bool.and_eq_true, decide_eq_true_eq, decide_eq_false_iff_not] at *; omega)))) ?_
    refine Ag (decide_eq_true (Bn (Bool.eq_false_iff.2 (by (try clear tlJ); intro hq; simp only [Ae, Ab, Av, Bool.and_eq_true, decide_eq_true_eq, decide_eq_false_iff_not] at *; omega)))) ?_
    refine B0 (Bool.eq_false_iff.2 (by (try clear tlJ); intro hq; simp only [Ae, Ab, Av, Bool.and_eq_true, decide_eq_true_eq, decide_eq_false_iff_not] at *; omega)) ?_
    refine B0 (Bool.eq_false_iff.2 (by (try clear tlJ); intro hq; simp only [Ae, Ab, Av, Bool.and_eq_true, decide_eq_true_eq, decide_eq_false_iff_not] at *; omega)) ?_
    refine B0 (Bool.eq_false_iff.2 (by (try clear tlJ); intro hq; simp only [Ae, Ab, Av, Bool.and_eq_true, decide_eq_true_eq, decide_eq_false_iff_not] at *; omega)) ?_
    refine Ag (decide_eq_true (Bn (Bool.eq_false_iff.2 (by (try clear tlJ); intro hq; simp only [Ae, Ab, Av, Bool.and_eq_true, decide_eq_true_eq, decide_eq_false_iff_not] at *; omega)))) ?_
    refine C4 (Bool.eq_false_iff.2 (by (try clear tlJ); intro hq; simp only [Ae, Ab, Av, Bool.and_eq_true, decide_eq_true_eq, decide_eq_false_iff_not] at *; omega)) ?_
    refine Ag (decide_eq_true (Bn (Bool.eq_false_iff.2 (by (try clear tlJ); intro hq; simp only [Ae, Ab, Av, Bool.and_eq_true, decide_eq_true_eq, decide_eq_false_iff_not] at *; omega)))) ?_
    refine Ag rfl ?_
    refine Ag rfl ?_
    refine F8 ?_
    refine Ag rfl ?_
    refine Ag (nT (Bool.eq_false_iff.2 (by (try clear tlJ); intro hq; simp only [Ae, Ab, Av, Bool.and_eq_true, decide_eq_true_eq, decide_eq_false_iff_not] at *; omega))) ?_
    refine Af (o' := 0) rfl ?_
    refine Ag (nT (Bool.eq_false_iff.2 (by (try clear tlJ); intro hq; simp only [Ae, Ab, Av, Bool.and_eq_true, decide_eq_true_eq, decide_eq_false_iff_not] at *; omega))) ?_
    refine Ay (c := .sc (.int .i64 ((A1 r14 r15).fHeld))) s26 (.here) rfl ?_
    refine Ag (nT (Bool.eq_false_iff.2 (by (try clear tlJ); intro hq; simp only [Ae, Ab, Av, Bool.and_eq_true, decide_eq_true_eq, decide_eq_false_iff_not] at *; omega))) ?_
    refine Af (o' := 0) rfl ?_
    refine Ag (nT (Bool.eq_false_iff.2 (by (try clear tlJ); intro hq; simp only [Ae, Ab, Av, Bool.and_eq_true, decide_eq_true_eq, decide_eq_false_iff_not] at *; omega))) ?_
    refine Ay (c := .sc (.int .i64 r14.fHeld)) s26 Ci rfl ?_
    refine Ag (nT (Bool.eq_false_iff.2 (by (try clear tlJ); intro hq; simp only [Ae, Ab, Av, Bool.and_eq_true, decide_eq_true_eq, decide_eq_false_iff_not] at *; omega))) ?_
    refine Bv ?_
    refine Ag rfl ?_
    refine D9 (nT (Bool.eq_false_iff.2 (by (try clear tlJ); intro hq; simp only [Ae, Ab, Av, Bool.and_eq_true, decide_eq_true_eq, decide_eq_false_iff_not] at *; omega))) ?_
    refine Ag (decide_eq_true (Bn (Bool.eq_false_iff.2 (by (try clear tlJ); intro hq; simp only [Ae, Ab, Av, Bool.and_eq_true, decide_eq_true_eq, decide_eq_false_iff_not] at *; omega)))) ?_
    refine C4 rfl ?_
    refine D9 (decide_eq_true (Bn (Bool.eq_false_iff.2 (by (try clear tlJ); intro hq; simp only [Ae, Ab, Av, Bool.and_eq_true, decide_eq_true_eq, decide_eq_false_iff_not] at *; omega)))) ?_
    refine Dr rfl ?_
    first | rfl | (simp only [As, Ae, A1, Ab, Av, Bool.and_eq_true, Bool.and_eq_false_iff, decide_eq_true_eq, decide_eq_false_iff_not, beq_iff_eq, bne_iff_ne, beq_eq_false_iff_ne] at *; first | omega | (simp_all; done) | (simp_all; omega) | (exfalso; simp_all; omega))
 ·refine C1 (decide_eq_true (by omega)) ?_
  exact Dr rfl rfl
end
end Go.Proofs.Ytjiahcekpohehaa.Abs
namespace Go.Proofs.Ytjiahcekpohehaa.Abs
open Go
set_option linter.unusedVariables false
set_option linter.unusedSimpArgs false
end Go.Proofs.Ytjiahcekpohehaa.Abs
namespace Go.Proofs.Ytjiahcekpohehaa.fnLocks
open Go Go.ChangeShapes Go.WideShapes Go.ChangeAt Go.RowKit
open Go.Proofs.Ytjiahcekpohehaa.Abs
set_option linter.unusedVariables false
theorem own : ownKnob Try.prog.godebug = none := by kernel_rfl
theorem AeN : laidOutB Try.prog = true := by kernel_rfl
theorem types : ([22].all (tyB At 14)) = true := by kernel_rfl
theorem Ac0 : ([22].all fun t => Try.prog.readableRec t && decide (t < Try.prog.types.size)) = true := by kernel_rfl
theorem AhL {xs : List AV} (h : AgQ At 14 [22] xs) : ∃ n, Di E0 n 4 3 xs = some (.sc (.bool true)) := by
 obtain ⟨y0, ys0, rfl, ⟨cs0, h0, rfl⟩, h⟩ := h
 obtain rfl := h
 obtain ⟨x0, rfl, k0⟩ := Zl ⟨_, rfl, rfl, rfl, rfl, rfl, rfl⟩ h0
 exact ⟨_, Wi 1048577 (by omega) x0 k0⟩
set_option maxRecDepth 100000 in
theorem AgL (os : Os) (started : os.Started) (H : Type) (enc : TypeId × Value → H) :
  ReturnsInHanded {} Try.checked os 3 .any (Rows.fnLocksSpec.pre6 enc Try.prog Try.f3 Rows.fnLocksRow.domain false) (Rows.fnLocksSpec.post enc Try.prog Try.f3 false true false false) := by
 refine returnsInHanded_of_change_sized (C := Try.checked) own started (by kernel_rfl) Try.func3
  (ChangeSpec.witness6 (enc := enc) (C := Try.checked) false ⟨#[], #[.slice none 0 0], []⟩ 8 (by kernel_rfl) (by kernel_rfl) (by kernel_rfl) (by kernel_rfl)) ?_
 intro W base args ds gs before hval0 hW hcnd hsz0 _
 have hval : ∀ (j : Nat) t v, Try.f3.params[j]? = some t → args[j]? = some v → Value.okWide Try.prog W .any base t v := hval0
 have hW' := hW
 obtain ⟨p, q, hA0, hV, rfl, hfz, hnd⟩ := hW
 have hA : DataW.TrodAll enc Try.prog W 0 (fun _ => true) true Try.f3.params.toList args.toList ds p := hA0
 rw [Try.params3] at hA hval
 obtain ⟨xs, hok, hl, hx⟩ := Sb Adg (n := 14) [22] args.toList ds p hA (fun j t v ht hv => hval j t v (by simpa using ht) (by simpa using hv)) types
 obtain ⟨m, hm⟩ := AhL hok
 have hc := Aca Ai3 hm (w := W) trivial hl hx
 have hA1 := hA
 obtain ⟨v0, vs0, d0, ds0, p0, q0, hargs, rfl, rfl, g0, r0⟩ := trodAll_cons hA
 obtain ⟨rfl, rfl, rfl⟩ := trodAll_nil r0
 obtain ⟨rfl, rfl⟩ := trodVars_none hV
 have hc2 : Calls Try.prog 3 args W fun e W' => e = .returned (.bool true) ∧ Below W.heap.size W W' := by simpa using hc
 refine hc2.mono fun e W' ⟨he, bel⟩ => ?_
 subst he
 exact ⟨_, rfl, _, _, _, [], _, [], hW', trodAll_mk1 (shut_bool Try.underlying4 _), Nv AeN bel Ac0 hA1, rfl, bel.frame _, fun h => by cases h⟩
theorem over : Rows.fnLocksRow.holds Try.pinned (OpenSpec.ofChange Rows.fnLocksSpec) :=
 OpenClaim.holds_of_wide 3 Try.f3 rfl rfl rfl rfl rfl rfl rfl ⟨rfl, rfl, rfl, rfl, rfl⟩ rfl rfl rfl rfl rfl (by kernel_rfl) Try.func3 (by kernel_rfl)
  (of_decide_eq_true (by kernel_rfl)) (by unfold Func.isWrapper; first | (rw [if_pos (by decide +kernel)]; kernel_rfl) | (rw [if_neg (by decide +kernel)]; exact ⟨rfl, rfl⟩))
  (fun os started H enc _ => AgL os started H enc)
theorem proved : Rows.FnLocksSaid := over
#print axioms proved
end Go.Proofs.Ytjiahcekpohehaa.fnLocks
namespace Go.Proofs.Ytjiahcekpohehaa
theorem fnLocks_holds : Rows.FnLocksSaid := fnLocks.proved
end Go.Proofs.Ytjiahcekpohehaa
