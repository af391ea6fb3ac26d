/- What the proof needs, part 4: a sound evaluator over trees, the program's functions on it, and what they come to. -/
import Derived.Test.YtjiahcekpohehaaGreatDoorMtc
set_option linter.unusedVariables false
set_option linter.unusedSimpArgs false
set_option maxRecDepth 100000
set_option maxHeartbeats 1600000
namespace Go.Proofs.YtjiahcekpohehaaGreatDoor.Abs
section
open Go
def D1 (l : ByteArray) (last : Bool) : Bool := !vPH l || (l.toList == (⟨#[43]⟩ : ByteArray).toList || (l.toList == (⟨#[35]⟩ : ByteArray).toList && last))
def C2 : List ByteArray → Bool
 | [] => true
 | x :: r => D1 x r.isEmpty && C2 r
def D9 (s : ByteArray) : Bool := Bi s && (!(s.toList == (⟨#[]⟩ : ByteArray).toList) && decide (((A4 s).length : Int) ≤ 6))
def Bm (s : ByteArray) : Bool := C2 (A4 s) && D9 s
theorem eqB {a b : ByteArray} : (a.toList == b.toList) = true ↔ a = b := by
 rw [beq_iff_eq]
 constructor
 ·intro h
  have h2 : a.data.toList = b.data.toList := by simpa [ByteArray.toList_eq] using h
  exact ByteArray.ext (Array.ext' h2)
 ·rintro rfl
  rfl
theorem Sp : ∀ (r cur : List UInt8), (Vy cur r).length ≤ r.length + 1
 | [], cur => by simp [Vy]
 | c :: r, cur => by
  rw [Vy]
  split
  ·have := Sp r []
   simp only [List.length_cons]
   omega
  ·have := Sp r (cur ++ [c])
   simp only [List.length_cons]
   omega
theorem Nf : ∀ (r cur : List UInt8), ∀ x ∈ Vy cur r, x.length ≤ cur.length + r.length
 | [], cur, x, h => by
  simp only [Vy, List.mem_singleton] at h
  subst h
  simp
 | c :: r, cur, x, h => by
  rw [Vy] at h
  split at h
  ·rcases List.mem_cons.1 h with rfl | h
   ·simp only [List.length_cons]
    omega
   ·have := Nf r [] x h
    simp only [List.length_cons, List.length_nil] at *
    omega
  ·have := Nf r (cur ++ [c]) x h
   simp only [List.length_append, List.length_cons, List.length_nil] at *
   omega
theorem G6 (s : ByteArray) (hs : s.size ≤ 1048576) : (A4 s).length ≤ 1048577 := by
 have := Sp s.data.toList []
 unfold A4
 rw [List.length_map]
 have e : s.data.toList.length = s.size := by simp
 omega
theorem Rk (s : ByteArray) (hs : s.size ≤ 1048576) (x : ByteArray) (hx : x ∈ A4 s) : x.size ≤ 1048576 := by
 unfold A4 at hx
 obtain ⟨l, hl, rfl⟩ := List.mem_map.1 hx
 have := Nf s.data.toList [] l hl
 have e : s.data.toList.length = s.size := by simp
 have e2 : (ofL l).size = l.length := by simp [ofL, ByteArray.size]
 simp only [List.length_nil] at this
 omega
theorem Ag7 (a b : Nat) : decide (((a : Nat) : Int) < ((a + (b + 1) : Nat) : Int) - 1) = !decide (((a : Nat) : Int) = ((a + (b + 1) : Nat) : Int) - 1) := by
 by_cases h : b = 0
 ·rw [decide_eq_false (by omega), decide_eq_true (by omega)]
  rfl
 ·rw [decide_eq_true (by omega), decide_eq_false (by omega)]
  rfl
theorem Aad (l : ByteArray) (last : Bool) : D1 l last = !((Fv l 43 && !(l.toList == (⟨#[43]⟩ : ByteArray).toList)) || (Fv l 35 && (!(l.toList == (⟨#[35]⟩ : ByteArray).toList) || !last))) := by
 unfold D1
 rw [show vPH l = (Fv l 43 || Fv l 35) from rfl]
 by_cases h1 : (l.toList == (⟨#[43]⟩ : ByteArray).toList) = true
 ·obtain rfl := eqB.1 h1
  have e1 : Fv (⟨#[43]⟩ : ByteArray) 43 = true := by decide
  have e2 : Fv (⟨#[43]⟩ : ByteArray) 35 = false := by decide
  rw [e1, e2, h1]
  simp
 ·by_cases h2 : (l.toList == (⟨#[35]⟩ : ByteArray).toList) = true
  ·obtain rfl := eqB.1 h2
   have e1 : Fv (⟨#[35]⟩ : ByteArray) 43 = false := by decide
   have e2 : Fv (⟨#[35]⟩ : ByteArray) 35 = true := by decide
   rw [e1, e2, h2, Bool.eq_false_iff.2 h1]
   simp
  ·rw [Bool.eq_false_iff.2 h1, Bool.eq_false_iff.2 h2]
   cases Fv l 43 <;> cases Fv l 35 <;> rfl
theorem Ab8 (n : Nat) (x : ByteArray) (b : Bool) (hx : x.size ≤ 1048576) : Bv E0 (n + 1) 4 301 [.sc (.string x), .sc (.bool b)] = some (.sc (.bool (D1 x b))) := by
 rw [Av, Ad3, f301]
 refine De (G := (· = some (.sc (.bool (D1 x b))))) ?_
 try simp only [A2, Cr, A1, Be]
 have s0 : Sep [] [] := Dd
 refine Iq rfl rfl (Rc _ x hx) ?_
 refine C5 ?_
 refine Ac ((vPH x)) (fun h1 => ?_) (fun h1 => ?_)
 ·refine Ae (nF h1) ?_
  refine Ae (nF h1) ?_
  refine Ks ?_
  refine An (nF h1) ?_
  refine Ac ((x.toList == (⟨#[43]⟩ : ByteArray).toList)) (fun h2 => ?_) (fun h2 => ?_)
  ·refine Aa h2 ?_
   refine Aa h2 ?_
   refine Aa h2 ?_
   refine Bt ?_
   refine Aa h2 ?_
   refine Bj h2 ?_
   refine Aj rfl ?_
   have e : D1 x b = true := by
    clear s0
    unfold D1; simp only [Bool.true_and, Bool.and_true, Bool.false_and, Bool.and_false, Bool.true_or, Bool.or_true, Bool.false_or, Bool.or_false, Bool.not_true, Bool.not_false, h1, h2]
   rw [e]
   first | done | rfl
  ·refine Ae h2 ?_
   refine Ae h2 ?_
   refine Ks ?_
   refine Ae h2 ?_
   refine Ac ((x.toList == (⟨#[35]⟩ : ByteArray).toList)) (fun h3 => ?_) (fun h3 => ?_)
   ·refine Ae h3 ?_
    refine Ae h2 ?_
    refine Bj h3 ?_
    refine An h2 ?_
    refine Aj rfl ?_
    have e : D1 x b = b := by
     clear s0
     unfold D1; simp only [Bool.true_and, Bool.and_true, Bool.false_and, Bool.and_false, Bool.true_or, Bool.or_true, Bool.false_or, Bool.or_false, Bool.not_true, Bool.not_false, h1, h2, h3]
    rw [e]
    first | done | rfl
   ·refine Aa h3 ?_
    refine Ae h2 ?_
    refine An h3 ?_
    refine An h2 ?_
    refine Aj rfl ?_
    have e : D1 x b = false := by
     clear s0
     unfold D1; simp only [Bool.true_and, Bool.and_true, Bool.false_and, Bool.and_false, Bool.true_or, Bool.or_true, Bool.false_or, Bool.or_false, Bool.not_true, Bool.not_false, h1, h2, h3]
    rw [e]
    first | done | rfl
 ·refine Aa (nT h1) ?_
  refine Aa (nT h1) ?_
  refine Bj (nT h1) ?_
  refine Aa rfl ?_
  refine Aa rfl ?_
  refine Aa rfl ?_
  refine Bt ?_
  refine Aa rfl ?_
  refine Bj rfl ?_
  refine Aj rfl ?_
  have e : D1 x b = true := by
   clear s0
   unfold D1; simp only [Bool.true_and, Bool.and_true, Bool.false_and, Bool.and_false, Bool.true_or, Bool.or_true, Bool.false_or, Bool.or_false, Bool.not_true, Bool.not_false, h1]
  rw [e]
  first | done | rfl
theorem Kv (n : Nat) (hn : 1048576 < n) (s : ByteArray) (hs : s.size ≤ 1048576) (ks : M7 s)   : ∀ (t pre : List ByteArray) (m : Nat) (i : Int) (x1 : AV) (H : Af), (A4 s) = pre ++ t → i = ((pre.length : Nat) : Int) → t.length < m → Cp x1 = true → Sep H [.own x1 33 (Dc (A4 s))] → Gd (· = some (.sc (.bool (C2 t && D9 s)))) (Jt (PR (n + 5) AV) (n + 5) (fun x H => A7 As E0.tp 4 H x) m (.sc (.string s)) (x1) (x1) (.sc (.int .i64 (((A4 s).length : Nat) : Int))) (.sc (.int .i64 i)) H)
 | [], pre, m + 1, i, x1, H, he, hi, hm, lx1, s0 => by
  obtain rfl : pre = (A4 s) := by simpa using he.symm
  have hlen : (A4 s).length ≤ 1048577 := G6 s hs
  have hlen : (A4 s).length ≤ 1048577 := G6 s hs
  rw [Jt]
  try simp only [Az, A2, Cr, Ay, A1, Be, Bu, Bw]
  refine D4 ?_
  refine Bf (by simp [hi]) ?_
  refine Iq rfl rfl (E2 _ s ks) ?_
  refine Ac ((Bi s)) (fun h201 => ?_) (fun h201 => ?_)
  ·refine Ae h201 ?_
   refine Ae h201 ?_
   refine Lz ?_
   refine Bj h201 ?_
   refine Ac ((s.toList == (⟨#[]⟩ : ByteArray).toList)) (fun h202 => ?_) (fun h202 => ?_)
   ·refine Aa (nF h202) ?_
    refine Aa (nF h202) ?_
    refine Aa (nF h202) ?_
    refine An (nF h202) ?_
    refine Aj rfl ?_
    have e : (C2 [] && D9 s) = false := by
     clear s0
     unfold D9; simp only [C2, Bool.true_and, Bool.and_true, Bool.false_and, Bool.and_false, Bool.true_or, Bool.or_true, Bool.false_or, Bool.or_false, Bool.not_true, Bool.not_false, h201, h202]
    rw [e]
    first | done | rfl
   ·refine Ae (nT h202) ?_
    refine Ae (nT h202) ?_
    refine Kt s0 (.here) ?_
    refine Ae (nT h202) ?_
    refine Hk ?_
    refine Bj (nT h202) ?_
    refine Aj rfl ?_
    have e : (C2 [] && D9 s) = (decide ((((A4 s).length : Nat) : Int) ≤ 6)) := by
     clear s0
     unfold D9; simp only [C2, Bool.true_and, Bool.and_true, Bool.false_and, Bool.and_false, Bool.true_or, Bool.or_true, Bool.false_or, Bool.or_false, Bool.not_true, Bool.not_false, h201, h202]
    rw [e]
    first | done | rfl
  ·refine Aa h201 ?_
   refine Aa h201 ?_
   refine An h201 ?_
   refine Aa rfl ?_
   refine Aa rfl ?_
   refine Aa rfl ?_
   refine An rfl ?_
   refine Aj rfl ?_
   have e : (C2 [] && D9 s) = false := by
    clear s0
    unfold D9; simp only [C2, Bool.true_and, Bool.and_true, Bool.false_and, Bool.and_false, Bool.true_or, Bool.or_true, Bool.false_or, Bool.or_false, Bool.not_true, Bool.not_false, h201]
   rw [e]
   first | done | rfl
 | y :: t, pre, m + 1, i, x1, H, he, hi, hm, lx1, s0 => by
  have hlt : pre.length < (A4 s).length := by rw [he]; simp
  have hlen : (A4 s).length ≤ 1048577 := G6 s hs
  have hlen : (A4 s).length ≤ 1048577 := G6 s hs
  have hys : y.size ≤ 1048576 := Rk s hs y (by rw [he]; simp)
  have hd : decide (i = (((A4 s).length : Nat) : Int) - 1) = t.isEmpty := by
   rw [he, hi]; cases t <;> simp <;> omega
  rw [Jt]
  try simp only [Az, A2, Cr, Ay, A1, Be, Bu, Bw]
  refine D4 ?_
  refine A0 (by simp [hi]; omega) ?_
  have he201 : ((A4 s))[(i).toNat]? = some y := by rw [he, hi]; simp
  refine Jy (y := y) s0 (.here) ⟨_, _, rfl, rfl, rfl⟩ (by omega) he201 fun de201 oe201 re201 => ?_
  refine Ly (k := 0) re201 (by omega) rfl ?_
  refine Kt s0 (.here) ?_
  refine Abw (by omega) (by omega) ?_
  refine Au ?_
  refine Ah (v := (.bool (D1 y (decide (i = ((((A4 s).length : Nat) : Int) - 1)))))) s0 rfl (.cons .sc (.cons .sc .nil)) (Ab8 (n + 4) y (decide (i = ((((A4 s).length : Nat) : Int) - 1))) hys) ?_
  refine C5 ?_
  refine Ac ((D1 y (decide (i = ((((A4 s).length : Nat) : Int) - 1))))) (fun h203 => ?_) (fun h203 => ?_)
  ·refine Bf (nF h203) ?_
   refine Fj (by omega) (by omega) ?_
   have e204 : (C2 (y :: t) && D9 s) = (C2 t && D9 s) := by
    clear s0
    rw [C2, ← hd]; simp only [Bool.true_and, Bool.and_true, Bool.false_and, Bool.and_false, Bool.true_or, Bool.or_true, Bool.false_or, Bool.or_false, Bool.not_true, Bool.not_false, h203]
   rw [e204]
   exact Kv n hn s hs ks   t (pre ++ [y]) m _ x1 _ (by rw [he]; simp) (by rw [hi]; simp) (by simpa using hm) lx1 (by simpa only [List.map_append, List.map_cons, List.map_nil] using (s0.sel (.cons (.here) .nil)))
  ·refine A0 (nT h203) ?_
   refine Aj rfl ?_
   have e : (C2 (y :: t) && D9 s) = false := by
    clear s0
    rw [C2, ← hd]; simp only [Bool.true_and, Bool.and_true, Bool.false_and, Bool.and_false, Bool.true_or, Bool.or_true, Bool.false_or, Bool.or_false, Bool.not_true, Bool.not_false, h203]
   rw [e]
   first | done | rfl
theorem N2 (n : Nat) (hn : 1048576 < n) (s : ByteArray) (hs : s.size ≤ 1048576) (ks : M7 s) : Bv E0 (n + 6) 4 269 [.sc (.string s)] = some (.sc (.bool (Bm s))) := by
 rw [Av, Adz, f269]
 refine De (G := (· = some (.sc (.bool (Bm s))))) ?_
 have hlen : (A4 s).length ≤ 1048577 := G6 s hs
 try simp only [Bu]
 have s0 : Sep [] [] := Dd
 refine Xg s0 rfl (.cons .sc .nil) (N3 (n + 4) s hs) (AgC (A4 s)) fun x1 H lx1 s2 => ?_
 refine Kt s2 (.here) ?_
 exact Kv n hn s hs ks   (A4 s) [] _ 0 x1 _ rfl rfl (by omega) lx1 s2
theorem Fb (n : Nat) (hn : 1048576 < n) (s : ByteArray) (hs : s.size ≤ 1048576) (ks : M7 s)   : ∀ (t pre : List ByteArray) (m : Nat) (i : Int) (x1 : AV) (H : Af), (A4 s) = pre ++ t → i = ((pre.length : Nat) : Int) → t.length < m → Cp x1 = true → Sep H [.own x1 33 (Dc (A4 s))] → Gd (· = some (.sc (.bool (C2 t && D9 s)))) (Js (PR (n + 5) AV) (n + 5) (fun x H => A7 As E0.tp 4 H x) m (.sc (.string s)) (x1) (.sc (.int .i64 i)) H)
 | [], pre, m + 1, i, x1, H, he, hi, hm, lx1, s0 => by
  obtain rfl : pre = (A4 s) := by simpa using he.symm
  have hlen : (A4 s).length ≤ 1048577 := G6 s hs
  have hlen : (A4 s).length ≤ 1048577 := G6 s hs
  rw [Js]
  try simp only [Az, A2, Ay, A1, Be, Bu, Bw]
  refine Kt s0 (.here) ?_
  refine D4 ?_
  refine Bf (by simp [hi]) ?_
  refine Ah (v := (.bool (Bi s))) s0 rfl (.cons .sc .nil) (Ef (n + 1) (by omega) _ s) ?_
  refine Ac ((Bi s)) (fun h201 => ?_) (fun h201 => ?_)
  ·refine Ae h201 ?_
   refine Ae h201 ?_
   refine Lz ?_
   refine Bj h201 ?_
   refine Ac ((s.toList == (⟨#[]⟩ : ByteArray).toList)) (fun h202 => ?_) (fun h202 => ?_)
   ·refine Aa (nF h202) ?_
    refine Aa (nF h202) ?_
    refine Aa (nF h202) ?_
    refine An (nF h202) ?_
    refine Aj rfl ?_
    have e : (C2 [] && D9 s) = false := by
     clear s0
     unfold D9; simp only [C2, Bool.true_and, Bool.and_true, Bool.false_and, Bool.and_false, Bool.true_or, Bool.or_true, Bool.false_or, Bool.or_false, Bool.not_true, Bool.not_false, h201, h202]
    rw [e]
    first | done | rfl
   ·refine Ae (nT h202) ?_
    refine Ae (nT h202) ?_
    refine Kt s0 (.here) ?_
    refine Ae (nT h202) ?_
    refine Hk ?_
    refine Bj (nT h202) ?_
    refine Aj rfl ?_
    have e : (C2 [] && D9 s) = (decide ((((A4 s).length : Nat) : Int) ≤ 6)) := by
     clear s0
     unfold D9; simp only [C2, Bool.true_and, Bool.and_true, Bool.false_and, Bool.and_false, Bool.true_or, Bool.or_true, Bool.false_or, Bool.or_false, Bool.not_true, Bool.not_false, h201, h202]
    rw [e]
    first | done | rfl
  ·refine Aa h201 ?_
   refine Aa h201 ?_
   refine An h201 ?_
   refine Aa rfl ?_
   refine Aa rfl ?_
   refine Aa rfl ?_
   refine An rfl ?_
   refine Aj rfl ?_
   have e : (C2 [] && D9 s) = false := by
    clear s0
    unfold D9; simp only [C2, Bool.true_and, Bool.and_true, Bool.false_and, Bool.and_false, Bool.true_or, Bool.or_true, Bool.false_or, Bool.or_false, Bool.not_true, Bool.not_false, h201]
   rw [e]
   first | done | rfl
 | y :: t, pre, m + 1, i, x1, H, he, hi, hm, lx1, s0 => by
  have hlt : pre.length < (A4 s).length := by rw [he]; simp
  have hlen : (A4 s).length ≤ 1048577 := G6 s hs
  have hlen : (A4 s).length ≤ 1048577 := G6 s hs
  have hys : y.size ≤ 1048576 := Rk s hs y (by rw [he]; simp)
  have hd : decide (i = (((A4 s).length : Nat) : Int) - 1) = t.isEmpty := by
   rw [he, hi]; cases t <;> simp <;> omega
  have hv : D1 y t.isEmpty = !((Fv y 43 && !(y.toList == (⟨#[43]⟩ : ByteArray).toList)) || (Fv y 35 && (!(y.toList == (⟨#[35]⟩ : ByteArray).toList) || decide (i < (((A4 s).length : Nat) : Int) - 1)))) := by
   rw [Aad, ← hd, show decide (i < (((A4 s).length : Nat) : Int) - 1) = !decide (i = (((A4 s).length : Nat) : Int) - 1) from by rw [he, hi, List.length_append, List.length_cons]; exact Ag7 _ _]
  rw [Js]
  try simp only [Az, A2, Ay, A1, Be, Bu, Bw]
  refine Kt s0 (.here) ?_
  refine D4 ?_
  refine A0 (by simp [hi]; omega) ?_
  have he201 : ((A4 s))[(i).toNat]? = some y := by rw [he, hi]; simp
  refine Jy (y := y) s0 (.here) ⟨_, _, rfl, rfl, rfl⟩ (by omega) he201 fun de201 oe201 re201 => ?_
  refine Ly (k := 0) re201 (by omega) rfl ?_
  refine Ah (v := (.bool (Fv y 43))) s0 rfl (.cons .sc (.cons .sc .nil)) (AeX (n + 4) (by omega) _ y hys) ?_
  refine Ac ((Fv y 43)) (fun h203 => ?_) (fun h203 => ?_)
  ·refine Ae h203 ?_
   refine Ae h203 ?_
   refine Ae h203 ?_
   have he204 : ((A4 s))[(i).toNat]? = some y := by rw [he, hi]; simp
   refine Jy (y := y) s0 (.here) ⟨_, _, rfl, rfl, rfl⟩ (by omega) he204 fun de204 oe204 re204 => ?_
   refine Ae h203 ?_
   refine Ly (k := 0) re204 (by omega) rfl ?_
   refine Ae h203 ?_
   refine Lz ?_
   refine Bj h203 ?_
   refine Ac ((y.toList == (⟨#[43]⟩ : ByteArray).toList)) (fun h206 => ?_) (fun h206 => ?_)
   ·refine Ae (nF h206) ?_
    refine Ae (nF h206) ?_
    refine Ae (nF h206) ?_
    have he207 : ((A4 s))[(i).toNat]? = some y := by rw [he, hi]; simp
    refine Jy (y := y) s0 (.here) ⟨_, _, rfl, rfl, rfl⟩ (by omega) he207 fun de207 oe207 re207 => ?_
    refine Ae (nF h206) ?_
    refine Ly (k := 0) re207 (by omega) rfl ?_
    refine Ae (nF h206) ?_
    refine Ah (v := (.bool (Fv y 35))) s0 rfl (.cons .sc (.cons .sc .nil)) (Aby (n + 4) (by omega) _ y hys) ?_
    refine Ae (nF h206) ?_
    refine Ac ((Fv y 35)) (fun h209 => ?_) (fun h209 => ?_)
    ·refine Ae h209 ?_
     refine Ae h209 ?_
     refine Ae h209 ?_
     have he210 : ((A4 s))[(i).toNat]? = some y := by rw [he, hi]; simp
     refine Jy (y := y) s0 (.here) ⟨_, _, rfl, rfl, rfl⟩ (by omega) he210 fun de210 oe210 re210 => ?_
     refine Ae h209 ?_
     refine Ly (k := 0) re210 (by omega) rfl ?_
     refine Ae h209 ?_
     refine Lz ?_
     refine Ae h209 ?_
     refine Ac ((y.toList == (⟨#[35]⟩ : ByteArray).toList)) (fun h212 => ?_) (fun h212 => ?_)
     ·refine Ae (nF h212) ?_
      refine Ae (nF h212) ?_
      refine Ae (nF h212) ?_
      refine Kt s0 (.here) ?_
      refine Ae (nF h212) ?_
      refine Abw (by omega) (by omega) ?_
      refine Ae (nF h212) ?_
      refine D4 ?_
      refine Ae h209 ?_
      refine An (nF h212) ?_
      refine Ae (nF h206) ?_
      refine Bj h209 ?_
      refine An (nF h206) ?_
      refine Ac ((decide (i < ((((A4 s).length : Nat) : Int) - 1)))) (fun h213 => ?_) (fun h213 => ?_)
      ·refine A0 h213 ?_
       refine Aj rfl ?_
       have e : (C2 (y :: t) && D9 s) = false := by
        clear s0
        rw [C2, hv]; simp only [Bool.true_and, Bool.and_true, Bool.false_and, Bool.and_false, Bool.true_or, Bool.or_true, Bool.false_or, Bool.or_false, Bool.not_true, Bool.not_false, h203, h206, h209, h212, h213]
       rw [e]
       first | done | rfl
      ·refine Bf h213 ?_
       refine Fj (by omega) (by omega) ?_
       have e214 : (C2 (y :: t) && D9 s) = (C2 t && D9 s) := by
        clear s0
        rw [C2, hv]; simp only [Bool.true_and, Bool.and_true, Bool.false_and, Bool.and_false, Bool.true_or, Bool.or_true, Bool.false_or, Bool.or_false, Bool.not_true, Bool.not_false, h203, h206, h209, h212, h213]
       rw [e214]
       exact Fb n hn s hs ks   t (pre ++ [y]) m _ x1 _ (by rw [he]; simp) (by rw [hi]; simp) (by simpa using hm) lx1 (by simpa only [List.map_append, List.map_cons, List.map_nil] using (s0.sel (.cons (.here) .nil)))
     ·refine Aa (nT h212) ?_
      refine Aa (nT h212) ?_
      refine Aa (nT h212) ?_
      refine Aa (nT h212) ?_
      refine Aa (nT h212) ?_
      refine Ae h209 ?_
      refine Bj (nT h212) ?_
      refine Ae (nF h206) ?_
      refine Bj h209 ?_
      refine An (nF h206) ?_
      refine A0 rfl ?_
      refine Aj rfl ?_
      have e : (C2 (y :: t) && D9 s) = false := by
       clear s0
       rw [C2, hv]; simp only [Bool.true_and, Bool.and_true, Bool.false_and, Bool.and_false, Bool.true_or, Bool.or_true, Bool.false_or, Bool.or_false, Bool.not_true, Bool.not_false, h203, h206, h209, h212]
      rw [e]
      first | done | rfl
    ·refine Aa h209 ?_
     refine Aa h209 ?_
     refine Aa h209 ?_
     refine Aa h209 ?_
     refine Aa h209 ?_
     refine Aa h209 ?_
     refine Bt ?_
     refine Bt ?_
     refine Bt ?_
     refine Bt ?_
     refine Bt ?_
     refine Aa h209 ?_
     refine Ae (nF h206) ?_
     refine An h209 ?_
     refine An (nF h206) ?_
     refine Bf rfl ?_
     refine Fj (by omega) (by omega) ?_
     have e215 : (C2 (y :: t) && D9 s) = (C2 t && D9 s) := by
      clear s0
      rw [C2, hv]; simp only [Bool.true_and, Bool.and_true, Bool.false_and, Bool.and_false, Bool.true_or, Bool.or_true, Bool.false_or, Bool.or_false, Bool.not_true, Bool.not_false, h203, h206, h209]
     rw [e215]
     exact Fb n hn s hs ks   t (pre ++ [y]) m _ x1 _ (by rw [he]; simp) (by rw [hi]; simp) (by simpa using hm) lx1 (by simpa only [List.map_append, List.map_cons, List.map_nil] using (s0.sel (.cons (.here) .nil)))
   ·refine Aa (nT h206) ?_
    refine Aa (nT h206) ?_
    refine Aa (nT h206) ?_
    refine Aa (nT h206) ?_
    refine Aa (nT h206) ?_
    refine Aa (nT h206) ?_
    refine Bt ?_
    refine Bt ?_
    refine Bt ?_
    refine Bt ?_
    refine Bt ?_
    refine Bt ?_
    refine Bt ?_
    refine Bt ?_
    refine Bt ?_
    refine Bt ?_
    refine Bt ?_
    refine Bt ?_
    refine Aa (nT h206) ?_
    refine Bj (nT h206) ?_
    refine A0 rfl ?_
    refine Aj rfl ?_
    have e : (C2 (y :: t) && D9 s) = false := by
     clear s0
     rw [C2, hv]; simp only [Bool.true_and, Bool.and_true, Bool.false_and, Bool.and_false, Bool.true_or, Bool.or_true, Bool.false_or, Bool.or_false, Bool.not_true, Bool.not_false, h203, h206]
    rw [e]
    first | done | rfl
  ·refine Aa h203 ?_
   refine Aa h203 ?_
   refine Aa h203 ?_
   refine Aa h203 ?_
   refine Aa h203 ?_
   refine An h203 ?_
   refine Ae rfl ?_
   refine Ae rfl ?_
   refine Ae rfl ?_
   have he216 : ((A4 s))[(i).toNat]? = some y := by rw [he, hi]; simp
   refine Jy (y := y) s0 (.here) ⟨_, _, rfl, rfl, rfl⟩ (by omega) he216 fun de216 oe216 re216 => ?_
   refine Ae rfl ?_
   refine Ly (k := 0) re216 (by omega) rfl ?_
   refine Ae rfl ?_
   refine Ah (v := (.bool (Fv y 35))) s0 rfl (.cons .sc (.cons .sc .nil)) (Aby (n + 4) (by omega) _ y hys) ?_
   refine Ae rfl ?_
   refine Ac ((Fv y 35)) (fun h218 => ?_) (fun h218 => ?_)
   ·refine Ae h218 ?_
    refine Ae h218 ?_
    refine Ae h218 ?_
    have he219 : ((A4 s))[(i).toNat]? = some y := by rw [he, hi]; simp
    refine Jy (y := y) s0 (.here) ⟨_, _, rfl, rfl, rfl⟩ (by omega) he219 fun de219 oe219 re219 => ?_
    refine Ae h218 ?_
    refine Ly (k := 0) re219 (by omega) rfl ?_
    refine Ae h218 ?_
    refine Lz ?_
    refine Ae h218 ?_
    refine Ac ((y.toList == (⟨#[35]⟩ : ByteArray).toList)) (fun h221 => ?_) (fun h221 => ?_)
    ·refine Ae (nF h221) ?_
     refine Ae (nF h221) ?_
     refine Ae (nF h221) ?_
     refine Kt s0 (.here) ?_
     refine Ae (nF h221) ?_
     refine Abw (by omega) (by omega) ?_
     refine Ae (nF h221) ?_
     refine D4 ?_
     refine Ae h218 ?_
     refine An (nF h221) ?_
     refine Ae rfl ?_
     refine Bj h218 ?_
     refine An rfl ?_
     refine Ac ((decide (i < ((((A4 s).length : Nat) : Int) - 1)))) (fun h222 => ?_) (fun h222 => ?_)
     ·refine A0 h222 ?_
      refine Aj rfl ?_
      have e : (C2 (y :: t) && D9 s) = false := by
       clear s0
       rw [C2, hv]; simp only [Bool.true_and, Bool.and_true, Bool.false_and, Bool.and_false, Bool.true_or, Bool.or_true, Bool.false_or, Bool.or_false, Bool.not_true, Bool.not_false, h203, h218, h221, h222]
      rw [e]
      first | done | rfl
     ·refine Bf h222 ?_
      refine Fj (by omega) (by omega) ?_
      have e223 : (C2 (y :: t) && D9 s) = (C2 t && D9 s) := by
       clear s0
       rw [C2, hv]; simp only [Bool.true_and, Bool.and_true, Bool.false_and, Bool.and_false, Bool.true_or, Bool.or_true, Bool.false_or, Bool.or_false, Bool.not_true, Bool.not_false, h203, h218, h221, h222]
      rw [e223]
      exact Fb n hn s hs ks   t (pre ++ [y]) m _ x1 _ (by rw [he]; simp) (by rw [hi]; simp) (by simpa using hm) lx1 (by simpa only [List.map_append, List.map_cons, List.map_nil] using (s0.sel (.cons (.here) .nil)))
    ·refine Aa (nT h221) ?_
     refine Aa (nT h221) ?_
     refine Aa (nT h221) ?_
     refine Aa (nT h221) ?_
     refine Aa (nT h221) ?_
     refine Ae h218 ?_
     refine Bj (nT h221) ?_
     refine Ae rfl ?_
     refine Bj h218 ?_
     refine An rfl ?_
     refine A0 rfl ?_
     refine Aj rfl ?_
     have e : (C2 (y :: t) && D9 s) = false := by
      clear s0
      rw [C2, hv]; simp only [Bool.true_and, Bool.and_true, Bool.false_and, Bool.and_false, Bool.true_or, Bool.or_true, Bool.false_or, Bool.or_false, Bool.not_true, Bool.not_false, h203, h218, h221]
     rw [e]
     first | done | rfl
   ·refine Aa h218 ?_
    refine Aa h218 ?_
    refine Aa h218 ?_
    refine Aa h218 ?_
    refine Aa h218 ?_
    refine Aa h218 ?_
    refine Bt ?_
    refine Bt ?_
    refine Bt ?_
    refine Bt ?_
    refine Bt ?_
    refine Aa h218 ?_
    refine Ae rfl ?_
    refine An h218 ?_
    refine An rfl ?_
    refine Bf rfl ?_
    refine Fj (by omega) (by omega) ?_
    have e224 : (C2 (y :: t) && D9 s) = (C2 t && D9 s) := by
     clear s0
     rw [C2, hv]; simp only [Bool.true_and, Bool.and_true, Bool.false_and, Bool.and_false, Bool.true_or, Bool.or_true, Bool.false_or, Bool.or_false, Bool.not_true, Bool.not_false, h203, h218]
    rw [e224]
    exact Fb n hn s hs ks   t (pre ++ [y]) m _ x1 _ (by rw [he]; simp) (by rw [hi]; simp) (by simpa using hm) lx1 (by simpa only [List.map_append, List.map_cons, List.map_nil] using (s0.sel (.cons (.here) .nil)))
theorem Io (n : Nat) (hn : 1048576 < n) (s : ByteArray) (hs : s.size ≤ 1048576) (ks : M7 s) : Bv E0 (n + 6) 4 224 [.sc (.string s)] = some (.sc (.bool (Bm s))) := by
 rw [Av, Adr, f224]
 refine De (G := (· = some (.sc (.bool (Bm s))))) ?_
 have hlen : (A4 s).length ≤ 1048577 := G6 s hs
 try simp only [Dm]
 have s0 : Sep [] [] := Dd
 refine Xg s0 rfl (.cons .sc .nil) (Oh (n + 4) (by omega) s hs) (AgC (A4 s)) fun x1 H lx1 s2 => ?_
 exact Fb n hn s hs ks   (A4 s) [] _ 0 x1 _ rfl rfl (by omega) lx1 s2
end
section
open Go
theorem AfZ {s : ByteArray} (h : s.size ≤ 1048576) : M7 s := Nat.le_trans h (by decide)
theorem F8 (n : Nat) (hn : 1048576 < n) (ty : Nat) (s : ByteArray) (hs : s.size ≤ 1048576) : Bv E0 (n + 5) ty 223 [.sc (.string s)] = some (.sc (.bool (B5 s))) := by
 rw [Av, Adq, f223]
 try simp only [Cl, Dm, A8, Az, Cw, A2, Do, E5, Cr, Ay, A1, Be, Bu, C7, Bw, Gi, E7, D5, Em, Dp, Gj, Gz, Gh, Fe]
 refine Fk rfl (Cn (En _ _) Fp) (Ef (n + 0) (by omega) _ s) ?_
 apply Bc ((Bi s) && (!(s.toList == (⟨#[]⟩ : ByteArray).toList)))
 ·intro b1 q1
  refine Ac ((Bi s)) (fun h1 => ?_) (fun h1 => ?_)
  ·refine Ap h1 ?_
   refine Ap h1 ?_
   refine B9 (v := .sc (.bool (!(s.toList == (⟨#[]⟩ : ByteArray).toList)))) (fun k => rfl) ?_
   refine Cb h1 (Er q1 h1) ?_
   exact rfl
  ·refine Ao h1 ?_
   refine Ao h1 ?_
   refine Ca h1 (Ep q1 h1) ?_
   exact rfl
 intro b1 q1
 apply Bc (b1 && (!(Fv s 43)))
 ·intro b2 q2
  refine Ac (b1) (fun h2 => ?_) (fun h2 => ?_)
  ·refine Ap h2 ?_
   refine Ap h2 ?_
   refine Fk rfl (Cn (En _ _) (Cn (En _ _) Fp)) (AeX (n + 3) (by omega) _ s hs) ?_
   refine Ap h2 ?_
   refine Q2 ?_
   refine Cb h2 (Er q2 h2) ?_
   exact rfl
  ·refine Ao h2 ?_
   refine Ao h2 ?_
   refine Ao h2 ?_
   refine Ca h2 (Ep q2 h2) ?_
   exact rfl
 intro b2 q2
 apply Bc (b2 && (!(Fv s 35)))
 ·intro b3 q3
  refine Ac (b2) (fun h3 => ?_) (fun h3 => ?_)
  ·refine Ap h3 ?_
   refine Ap h3 ?_
   refine Fk rfl (Cn (En _ _) (Cn (En _ _) Fp)) (Aby (n + 3) (by omega) _ s hs) ?_
   refine Ap h3 ?_
   refine Q2 ?_
   refine Cb h3 (Er q3 h3) ?_
   exact rfl
  ·refine Ao h3 ?_
   refine Ao h3 ?_
   refine Ao h3 ?_
   refine Ca h3 (Ep q3 h3) ?_
   exact rfl
 intro b3 q3
 apply Bc (b3 && (decide (((A4 s).length : Int) ≤ 6)))
 ·intro b4 q4
  refine Ac (b3) (fun h4 => ?_) (fun h4 => ?_)
  ·refine Ap h4 ?_
   refine Ap h4 ?_
   refine Xi rfl (Cn (En _ _) Fp) (Oh (n + 3) (by omega) s hs) fun N5 X5 z5 => ?_
   refine Ap h4 ?_
   refine Acs ?_
   refine Ap h4 ?_
   refine B9 (v := .sc (.bool (decide (((A4 s).length : Int) ≤ 6)))) (fun k => rfl) ?_
   refine Cb h4 (Er q4 h4) ?_
   exact rfl
  ·refine Ao h4 ?_
   refine Ao h4 ?_
   refine Ao h4 ?_
   refine Ao h4 ?_
   refine Ca h4 (Ep q4 h4) ?_
   exact rfl
 intro b4 q4
 exact Acq (by subst_vars; unfold B5; first | rfl | (unfold vPH; cases Bi s <;> cases Fv s 43 <;> cases Fv s 35 <;> simp))
theorem Jz (n : Nat) (hn : 1048576 < n) (ty : Nat) (s : ByteArray) (hs : s.size ≤ 1048576) : Bv E0 (n + 5) ty 198 [.sc (.string s)] = some (.sc (.bool (B5 s))) := by
 rw [Av, Adi, f198]
 try simp only [Cl, Dm, A8, Az, Cw, A2, Do, E5, Cr, Ay, A1, Be, Bu, C7, Bw, Gi, E7, D5, Em, Dp, Gj, Gz, Gh, Fe]
 refine Ab9 rfl (Cn (En _ _) Fp) (E2 _ s (AfZ hs)) ?_
 apply Bc ((Bi s) && (!(s.toList == (⟨#[]⟩ : ByteArray).toList)))
 ·intro b1 q1
  refine Ac ((Bi s)) (fun h1 => ?_) (fun h1 => ?_)
  ·refine Ap h1 ?_
   refine Ap h1 ?_
   refine B9 (v := .sc (.bool (!(s.toList == (⟨#[]⟩ : ByteArray).toList)))) (fun k => rfl) ?_
   refine Cb h1 (Er q1 h1) ?_
   exact rfl
  ·refine Ao h1 ?_
   refine Ao h1 ?_
   refine Ca h1 (Ep q1 h1) ?_
   exact rfl
 intro b1 q1
 apply Bc (b1 && (!(vPH s)))
 ·intro b2 q2
  refine Ac (b1) (fun h2 => ?_) (fun h2 => ?_)
  ·refine Ap h2 ?_
   refine Ap h2 ?_
   refine Ab9 rfl (Cn (En _ _) (Cn (En _ _) Fp)) (Rc _ s hs) ?_
   refine Ap h2 ?_
   refine Q2 ?_
   refine Cb h2 (Er q2 h2) ?_
   exact rfl
  ·refine Ao h2 ?_
   refine Ao h2 ?_
   refine Ao h2 ?_
   refine Ca h2 (Ep q2 h2) ?_
   exact rfl
 intro b2 q2
 apply Bc (b2 && (decide (((A4 s).length : Int) ≤ 6)))
 ·intro b3 q3
  refine Ac (b2) (fun h3 => ?_) (fun h3 => ?_)
  ·refine Ap h3 ?_
   refine Ap h3 ?_
   refine Xi rfl (Cn (En _ _) Fp) (N3 (n + 3) s hs) fun N4 X4 z4 => ?_
   refine Ap h3 ?_
   refine Acs ?_
   refine Ap h3 ?_
   refine B9 (v := .sc (.bool (decide (((A4 s).length : Int) ≤ 6)))) (fun k => rfl) ?_
   refine Cb h3 (Er q3 h3) ?_
   exact rfl
  ·refine Ao h3 ?_
   refine Ao h3 ?_
   refine Ao h3 ?_
   refine Ao h3 ?_
   refine Ca h3 (Ep q3 h3) ?_
   exact rfl
 intro b3 q3
 exact Acq (by subst_vars; unfold B5; first | rfl | (unfold vPH; cases Bi s <;> cases Fv s 43 <;> cases Fv s 35 <;> simp))
def Ce (m : Fl) : Bool := B5 m.fTopic && decide ((m.fBody.size : Int) ≤ 40) && A5 m.fQos 0 2
theorem AfP (n : Nat) (ty : Nat) (x : Int) : Bv E0 (n + 2) ty 197 [.sc (.int .i64 x)] = some (.sc (.bool (A5 x 0 2))) := by
 rw [Av, W1, f197]
 try simp only [Cl, Dm, A8, Az, Cw, A2, Do, E5, Cr, Ay, A1, Be, Bu, C7, Bw, Gi, E7, D5, Em, Dp, Gj, Gz, Gh, Fe]
 refine Fk rfl (Cn (En _ _) (Cn (En _ _) (Cn (En _ _) Fp))) (Dx (n + 0) _ x 0 2) ?_
 exact Iw (by first | (simp_all [A5, B5, Ce]; done) | (rw [Bool.eq_iff_iff]; simp [A5, B5, Ce] at *; omega))
theorem Ua (n : Nat) (hn : 1048576 < n) (ty : Nat) (m : Fl) (hs : m.fTopic.size ≤ 1048576) : Bv E0 (n + 6) ty 139 [.agg (B8 m)] = some (.sc (.bool (Ce m))) := by
 rw [Av, AcM, f139]
 try simp only [Cl, Dm, A8, Az, Cw, A2, Do, E5, Cr, Ay, A1, Be, Bu, C7, Bw, Gi, E7, D5, Em, Dp, Gj, Gz, Gh, Fe]
 refine R2 (Eo _) fun iB1 eB1 B1 => ?_
 refine At ?_
 refine Bx (c := .sc (.string m.fTopic)) B1 (Bs rfl) rfl ?_
 refine Fk rfl (Cn (En _ _) Fp) (F8 (n + 0) (by omega) _ m.fTopic (by assumption)) ?_
 apply Bc ((B5 m.fTopic) && (decide ((m.fBody.size : Int) ≤ 40)))
 ·intro b2 q2
  refine Ac ((B5 m.fTopic)) (fun h2 => ?_) (fun h2 => ?_)
  ·refine Ap h2 ?_
   refine At ?_
   refine Ap h2 ?_
   refine Bx (c := Ax m.fBody) B1 (Bs rfl) rfl ?_
   refine Ap h2 ?_
   refine Hl ?_
   refine Ap h2 ?_
   refine B9 (v := .sc (.bool (decide ((m.fBody.size : Int) ≤ 40)))) (fun k => rfl) ?_
   refine Cb h2 (Er q2 h2) ?_
   exact rfl
  ·refine Ao h2 ?_
   refine Ao h2 ?_
   refine Ao h2 ?_
   refine Ao h2 ?_
   refine Ca h2 (Ep q2 h2) ?_
   exact rfl
 intro b2 q2
 apply Bc (b2 && (A5 m.fQos 0 2))
 ·intro b3 q3
  refine Ac (b2) (fun h3 => ?_) (fun h3 => ?_)
  ·refine Ap h3 ?_
   refine At ?_
   refine Ap h3 ?_
   refine Bx (c := .sc (.int .i64 m.fQos)) B1 (Bs rfl) rfl ?_
   refine Ap h3 ?_
   refine Fk rfl (Cn (En _ _) (Cn (En _ _) (Cn (En _ _) Fp))) (Dh (n + 4) _ m.fQos 0 2) ?_
   refine Cb h3 (Er q3 h3) ?_
   exact rfl
  ·refine Ao h3 ?_
   refine Ao h3 ?_
   refine Ao h3 ?_
   refine Ca h3 (Ep q3 h3) ?_
   exact rfl
 intro b3 q3
 exact Iw (by subst_vars; first | rfl | (simp only [Ce]; done) | (simp only [Ce]; ac_rfl))
theorem Pv (n : Nat) (hn : 1048576 < n) (ty : Nat) (m : Fl) (hs : m.fTopic.size ≤ 1048576) : Bv E0 (n + 6) ty 151 [.agg (B8 m)] = some (.sc (.bool (Ce m))) := by
 rw [Av, AcX, f151]
 try simp only [Cl, Dm, A8, Az, Cw, A2, Do, E5, Cr, Ay, A1, Be, Bu, C7, Bw, Gi, E7, D5, Em, Dp, Gj, Gz, Gh, Fe]
 refine R2 (Eo _) fun iB1 eB1 B1 => ?_
 refine At ?_
 refine Bx (c := .sc (.string m.fTopic)) B1 (Bs rfl) rfl ?_
 refine Fk rfl (Cn (En _ _) Fp) (Jz (n + 0) (by omega) _ m.fTopic (by assumption)) ?_
 apply Bc ((B5 m.fTopic) && (decide ((m.fBody.size : Int) ≤ 40)))
 ·intro b2 q2
  refine Ac ((B5 m.fTopic)) (fun h2 => ?_) (fun h2 => ?_)
  ·refine Ap h2 ?_
   refine At ?_
   refine Ap h2 ?_
   refine Bx (c := Ax m.fBody) B1 (Bs rfl) rfl ?_
   refine Ap h2 ?_
   refine Hl ?_
   refine Ap h2 ?_
   refine B9 (v := .sc (.bool (decide ((m.fBody.size : Int) ≤ 40)))) (fun k => rfl) ?_
   refine Cb h2 (Er q2 h2) ?_
   exact rfl
  ·refine Ao h2 ?_
   refine Ao h2 ?_
   refine Ao h2 ?_
   refine Ao h2 ?_
   refine Ca h2 (Ep q2 h2) ?_
   exact rfl
 intro b2 q2
 apply Bc (b2 && (A5 m.fQos 0 2))
 ·intro b3 q3
  refine Ac (b2) (fun h3 => ?_) (fun h3 => ?_)
  ·refine Ap h3 ?_
   refine At ?_
   refine Ap h3 ?_
   refine Bx (c := .sc (.int .i64 m.fQos)) B1 (Bs rfl) rfl ?_
   refine Ap h3 ?_
   refine Fk rfl (Cn (En _ _) Fp) (AfP (n + 3) _ m.fQos) ?_
   refine Cb h3 (Er q3 h3) ?_
   exact rfl
  ·refine Ao h3 ?_
   refine Ao h3 ?_
   refine Ao h3 ?_
   refine Ca h3 (Ep q3 h3) ?_
   exact rfl
 intro b3 q3
 exact Iw (by subst_vars; first | rfl | (simp only [Ce]; done) | (simp only [Ce]; ac_rfl))
theorem Aau {α : Type} (p : α → Bool) (e : Bool) (go : List α → List α → Bool) (h0 : ∀ pre, go pre [] = e) (h1 : ∀ pre x r, go pre (x :: r) = (p x && go (pre ++ [x]) r)) : ∀ (r pre : List α), go pre r = (r.all p && e)
 | [], pre => by rw [h0]; simp
 | x :: r, pre => by rw [h1, Aau p e go h0 h1 r, List.all_cons, Bool.and_assoc]
def Sj : List Fl → List Fl → Bool
 | pre, [] => true
 | pre, x :: r => Ce x && Sj (pre ++ [x]) r
theorem Px (n : Nat) (hn : 1048576 < n) (ty : Nat) (l : List Fl) (hlen : l.length ≤ 1048576) (hsl : ∀ x ∈ l, x.fTopic.size ≤ 1048576) : ∀ (r pre : List Fl) (m : Nat) (H : Af), l = pre ++ r → r.length < m → Mf (PR (n + 6) AV) (n + 6) (fun x H => A7 As E0.tp ty H x) m (Bq B8 l) (.sc (.int .i64 (l.length : Int))) (.sc (.int .i64 pre.length)) H = some (.sc (.bool (Sj pre r)))
 | [], pre, m + 1, H, hl, hm => by
  have hlt : decide ((pre.length : Int) < (l.length : Int)) = false := by
   rw [hl]
   simp
  show (PR (n + 6) AV).bin _ _ _ _ = _
  simp only [Cl, Dm, A8, Az, Cw, A2, Do, E5, Cr, Ay, A1, Be, Bu, C7, Bw, Gi, E7, D5, Em, Dp, Gj, Gz, Gh, Fe]
  refine B9 (v := .sc (.bool (decide ((pre.length : Int) < (l.length : Int))))) (fun k => rfl) ?_
  refine L4 hlt ?_
  exact Iw (by first | (subst_vars; simp only [Sj]; simp_all; done) | (subst_vars; unfold Sj; simp_all))
 | x :: r, pre, m + 1, H, hl, hm => by
  have hpl : pre.length < l.length := by rw [hl]; simp
  have hlt : decide ((pre.length : Int) < (l.length : Int)) = true := by simpa using hpl
  have hmem : x ∈ l := by rw [hl]; simp
  have hix : IntKind.i64.wrap ((pre.length : Int) + 1) = (((pre ++ [x]).length : Nat) : Int) := by
   rw [Ib _ (by omega) (by omega), List.length_append, List.length_singleton]
   rfl
  try have hs : x.fTopic.size ≤ 1048576 := hsl x (by assumption)
  show (PR (n + 6) AV).bin _ _ _ _ = _
  simp only [Cl, Dm, A8, Az, Cw, A2, Do, E5, Cr, Ay, A1, Be, Bu, C7, Bw, Gi, E7, D5, Em, Dp, Gj, Gz, Gh, Fe]
  refine B9 (v := .sc (.bool (decide ((pre.length : Int) < (l.length : Int))))) (fun k => rfl) ?_
  refine Kl hlt ?_
  refine Aeq Ky (by decide) hl ?_
  refine Acr (ds := B8 x) (Bs rfl) rfl ?_
  refine AbA rfl (Ky _) (Xd (Eo _)) fun iB1 B1 => ?_
  refine AgJ (ds := B8 x) B1 (Bs rfl) rfl ?_
  refine Fk rfl (Cn (Hv _ (Eo _)) Fp) (Pv (n + 0) (by omega) _ x (by assumption)) ?_
  refine Q2 ?_
  refine Ac ((Ce x)) (fun h2 => ?_) (fun h2 => ?_)
  ·refine L4 (nF h2) ?_
   refine B9 (v := .sc (.int .i64 (IntKind.i64.wrap ((pre.length : Int) + 1)))) (fun k => rfl) ?_
   rw [hix]
   refine (Px n hn ty l hlen hsl r (pre ++ [x]) m _  (by rw [hl]; simp) (by simpa using hm)).trans (congrArg (fun b => some (AV.sc (Value.bool b))) ?_)
   first | (subst_vars; simp only [Sj]; simp_all; done) | (subst_vars; unfold Sj; simp_all)
  ·refine Kl (nT h2) ?_
   exact Iw (by first | (subst_vars; simp only [Sj]; simp_all; done) | (subst_vars; unfold Sj; simp_all))
theorem Rg (n : Nat) (hn : 1048576 < n) (ty : Nat) (l : List Fl) (hlen : l.length ≤ 1048576) (hsl : ∀ x ∈ l, x.fTopic.size ≤ 1048576) : Bv E0 (n + 7) ty 152 [Bq B8 l] = some (.sc (.bool (l.all Ce))) := by
 rw [Av, AcY, f152]
 simp only [Bu]
 refine Hl ?_
 have key := Px n hn ty l hlen hsl l [] (n + 6) [] rfl (by omega)
 rw [Aau Ce true Sj (fun _ => rfl) (fun _ _ _ => rfl) l [], Bool.and_true] at key
 exact key
theorem Aah (l : List Fl) (b0 : Om Fd l ≤ 1048576) : l.length ≤ 1048576 ∧ ∀ x ∈ l, x.fTopic.size ≤ 1048576 := by
 have h1 := Fc Fd l
 refine ⟨by omega, fun x hx => ?_⟩
 have h2 := Gu (wt := Fd) hx
 have h3 : Fd x = x.fTopic.size + (x.fBody.size + 0) := rfl
 omega
end
section
open Go
def He (x y : Fu) : Bool := x.fFilter.toList == y.fFilter.toList && x.fQos == y.fQos
theorem Ra (x y : Fu) : Ii [1, 0] (Bg x) (Bg y) = some (He x y) := by
 simp only [Bg, Ii, Ux, He, if_true, Option.bind_some]
 generalize (x.fFilter.toList == y.fFilter.toList) = b0
 generalize (x.fQos == y.fQos) = b1
 cases b0 <;> cases b1 <;> rfl
theorem Uz (n : Nat) (hn : 1048576 < n) (ty : Nat) (l q : List Fu) (hl : l.length ≤ 1048576) : Bv E0 (n + 1) ty 203 [Bq Bg l, Bq Bg q] = some (.sc (.bool (E8 He l q))) := by
 rw [Av, Adk, f203]
 simp only [Bu, A2, Ay]
 rw [C8, C8, Mp, Cf, E8]
 by_cases h : l.length = q.length
 ·rw [if_neg (by simpa using h), if_pos h]
  rw [C8]
  have key := Hy (β := AV) Bg (E6) (by decide) (fun x => .agg (Bg x)) (fun p k => Bz true 2 p [] k) (fun x r k => P1 2 _ _ [] k (E6 x)) (fun x y k => Mw .neq [1, 0] x y k) He (fun x y k => Wi _ _ _ _ (Ra x y) k) l q h hl (fun m i => Mh (PR n AV) n (fun x H => A7 As E0.tp ty H x) m (Bq Bg l) (Bq Bg q) (.sc (.int .i64 l.length)) i []) (some (.sc (.bool false))) (some (.sc (.bool true))) (fun m i => rfl) l q [] [] n rfl rfl rfl (by omega)
  simp only [List.length_nil, Int.natCast_zero] at key
  refine key.trans ?_
  cases G9 He l q <;> rfl
 ·rw [if_pos (by simpa using h), if_neg h]
  rfl
theorem X9 (n : Nat) (hn : 1048576 < n) (ty : Nat) (l q : List ByteArray) (hl : l.length ≤ 1048576) : Bv E0 (n + 1) ty 204 [Dc l, Dc q] = some (.sc (.bool (E8 Nc l q))) := by
 rw [Jh, Jh]
 rw [Av, Adl, f204]
 simp only [Bu, A2, Ay]
 rw [C8, C8, Mp, Cf, E8]
 by_cases h : l.length = q.length
 ·rw [if_neg (by simpa using h), if_pos h]
  rw [C8]
  have key := Hy (β := AV) O9 (fun _ => rfl) (by decide) (fun z => .sc (.string z)) (fun p k => Bz false 1 p [] k) (fun x r k => ldS x r [] k) (fun x y k => Cg .neq x y k) Nc (fun x y k => neS x y k) l q h hl (fun m i => Mi (PR n AV) n (fun x H => A7 As E0.tp ty H x) m (Bq O9 l) (Bq O9 q) (.sc (.int .i64 l.length)) i []) (some (.sc (.bool false))) (some (.sc (.bool true))) (fun m i => rfl) l q [] [] n rfl rfl rfl (by omega)
  simp only [List.length_nil, Int.natCast_zero] at key
  refine key.trans ?_
  cases G9 Nc l q <;> rfl
 ·rw [if_pos (by simpa using h), if_neg h]
  rfl
theorem X8 (n : Nat) (hn : 1048576 < n) (ty : Nat) (l q : List Int) (hl : l.length ≤ 1048576) : Bv E0 (n + 1) ty 205 [Dl l, Dl q] = some (.sc (.bool (E8 Uk l q))) := by
 rw [I8, I8]
 rw [Av, Adm, f205]
 simp only [Bu, A2, Ay]
 rw [C8, C8, Mp, Cf, E8]
 by_cases h : l.length = q.length
 ·rw [if_neg (by simpa using h), if_pos h]
  rw [C8]
  have key := Hy (β := AV) O8 (fun _ => rfl) (by decide) (fun z => .sc (.int .i64 z)) (fun p k => Bz false 1 p [] k) (fun x r k => ldI x r [] k) (fun x y k => Cg .neq x y k) Uk (fun x y k => neI x y k) l q h hl (fun m i => Mj (PR n AV) n (fun x H => A7 As E0.tp ty H x) m (Bq O8 l) (Bq O8 q) (.sc (.int .i64 l.length)) i []) (some (.sc (.bool false))) (some (.sc (.bool true))) (fun m i => rfl) l q [] [] n rfl rfl rfl (by omega)
  simp only [List.length_nil, Int.natCast_zero] at key
  refine key.trans ?_
  cases G9 Uk l q <;> rfl
 ·rw [if_pos (by simpa using h), if_neg h]
  rfl
def Ez (a b : Ar) : Bool := (a.fType == b.fType) && (a.fDup == b.fDup) && (a.fQos == b.fQos) && (a.fRetain == b.fRetain) && (a.fId == b.fId) && (a.fTopic.toList == b.fTopic.toList) && (a.fBody.toList == b.fBody.toList) && (a.fClient.toList == b.fClient.toList) && (a.fLevel == b.fLevel) && (a.fClean == b.fClean) && (a.fKeep == b.fKeep) && (a.fHasWill == b.fHasWill) && (a.fWTopic.toList == b.fWTopic.toList) && (a.fWBody.toList == b.fWBody.toList) && (a.fWQos == b.fWQos) && (a.fWRetain == b.fWRetain) && (a.fHasUser == b.fHasUser) && (a.fUser.toList == b.fUser.toList) && (a.fHasPass == b.fHasPass) && (a.fPass.toList == b.fPass.toList) && (a.fCode == b.fCode) && (a.fPresent == b.fPresent)
def Jk (a b : Ar) : Bool := E8 He a.fWants b.fWants && E8 Nc a.fNames b.fNames && E8 Uk a.fCodes b.fCodes
def A3 (a b : Ar) : Bool := Jk a b && Ez a b
theorem Aef (n : Nat) (hn : 1048576 < n) (ty : Nat) (a b : Ar) (H : Af) (i1 i2 : Nat) (B1 : H[i1]? = some ⟨A6 a, true, true⟩) (B2 : H[i2]? = some ⟨A6 b, true, true⟩) (hl2 : a.fCodes.length ≤ 1048576) (hq2 : a.fCodes.length = b.fCodes.length) : Ik (PR (n + 1) AV) (n + 1) (fun x H => A7 As E0.tp ty H x) (n + 1) (.ptr i1 0) (.ptr i2 0) (.sc (.int .i64 0)) H = some (.sc (.bool (if G9 Uk a.fCodes b.fCodes then (Ez a b) else false))) := by
 have hL : ∀ m i, Ik (PR (n + 1) AV) (n + 1) (fun x H => A7 As E0.tp ty H x) (m + 1) (.ptr i1 0) (.ptr i2 0) i H = Cg .lss i (.sc (.int .i64 a.fCodes.length)) fun t14 => Cy t14 (C4 1 (Bq O8 a.fCodes) i fun t19 => Bz false 1 t19 H fun t20 => C4 1 (Bq O8 b.fCodes) i fun t23 => Bz false 1 t23 H fun t24 => (fun x y k => Cg .neq x y k) t20 t24 fun t25 => Cy t25 (some (.sc (.bool false))) (Cg .add i (.sc (.int .i64 1)) fun t16 => Ik (PR (n + 1) AV) (n + 1) (fun x H => A7 As E0.tp ty H x) m (.ptr i1 0) (.ptr i2 0) t16 H)) (some (.sc (.bool (Ez a b)))) := by
  intro m i
  show (PR (n + 1) AV).fadr 24 (.ptr i1 0) _ = _
  simp only [A8, Az, A2, Do, E5, Ay, A1, Be, Bu, Bw]
  refine At ?_
  refine Bx (c := Dl a.fCodes) B1 (Bs rfl) rfl ?_
  refine Hl ?_
  congr 1
  funext t
  congr 1
  ·refine At ?_
   refine Bx (c := Dl a.fCodes) B1 (Bs rfl) rfl ?_
   rw [I8]
   congr 1
   funext t2
   congr 1
   funext t3
   refine At ?_
   refine Bx (c := Dl b.fCodes) B2 (Bs rfl) rfl ?_
   rw [I8]
   rfl
  ·skip
   refine At ?_
   refine Bx (c := .sc (.int .i64 a.fType)) B1 (Bs rfl) rfl ?_
   refine At ?_
   refine Bx (c := .sc (.int .i64 b.fType)) B2 (Bs rfl) rfl ?_
   refine B9 (v := .sc (.bool (a.fType == b.fType))) (fun k => rfl) ?_
   apply Bc ((a.fType == b.fType) && (a.fDup == b.fDup))
   ·intro b1 q1
    refine Ac ((a.fType == b.fType)) (fun h1 => ?_) (fun h1 => ?_)
    ·refine Ap h1 ?_
     refine At ?_
     refine Ap h1 ?_
     refine Bx (c := .sc (.bool a.fDup)) B1 (Bs rfl) rfl ?_
     refine Ap h1 ?_
     refine At ?_
     refine Ap h1 ?_
     refine Bx (c := .sc (.bool b.fDup)) B2 (Bs rfl) rfl ?_
     refine Ap h1 ?_
     refine Fq (v := .sc (.bool (a.fDup == b.fDup))) (fun k => rfl) ?_
     refine Cb h1 (Er q1 h1) ?_
     exact rfl
    ·refine Ao h1 ?_
     refine Ao h1 ?_
     refine Ao h1 ?_
     refine Ao h1 ?_
     refine Ao h1 ?_
     refine Ca h1 (Ep q1 h1) ?_
     exact rfl
   intro b1 q1
   apply Bc (b1 && (a.fQos == b.fQos))
   ·intro b2 q2
    refine Ac (b1) (fun h2 => ?_) (fun h2 => ?_)
    ·refine Ap h2 ?_
     refine At ?_
     refine Ap h2 ?_
     refine Bx (c := .sc (.int .i64 a.fQos)) B1 (Bs rfl) rfl ?_
     refine Ap h2 ?_
     refine At ?_
     refine Ap h2 ?_
     refine Bx (c := .sc (.int .i64 b.fQos)) B2 (Bs rfl) rfl ?_
     refine Ap h2 ?_
     refine B9 (v := .sc (.bool (a.fQos == b.fQos))) (fun k => rfl) ?_
     refine Cb h2 (Er q2 h2) ?_
     exact rfl
    ·refine Ao h2 ?_
     refine Ao h2 ?_
     refine Ao h2 ?_
     refine Ao h2 ?_
     refine Ao h2 ?_
     refine Ca h2 (Ep q2 h2) ?_
     exact rfl
   intro b2 q2
   apply Bc (b2 && (a.fRetain == b.fRetain))
   ·intro b3 q3
    refine Ac (b2) (fun h3 => ?_) (fun h3 => ?_)
    ·refine Ap h3 ?_
     refine At ?_
     refine Ap h3 ?_
     refine Bx (c := .sc (.bool a.fRetain)) B1 (Bs rfl) rfl ?_
     refine Ap h3 ?_
     refine At ?_
     refine Ap h3 ?_
     refine Bx (c := .sc (.bool b.fRetain)) B2 (Bs rfl) rfl ?_
     refine Ap h3 ?_
     refine Fq (v := .sc (.bool (a.fRetain == b.fRetain))) (fun k => rfl) ?_
     refine Cb h3 (Er q3 h3) ?_
     exact rfl
    ·refine Ao h3 ?_
     refine Ao h3 ?_
     refine Ao h3 ?_
     refine Ao h3 ?_
     refine Ao h3 ?_
     refine Ca h3 (Ep q3 h3) ?_
     exact rfl
   intro b3 q3
   apply Bc (b3 && (a.fId == b.fId))
   ·intro b4 q4
    refine Ac (b3) (fun h4 => ?_) (fun h4 => ?_)
    ·refine Ap h4 ?_
     refine At ?_
     refine Ap h4 ?_
     refine Bx (c := .sc (.int .i64 a.fId)) B1 (Bs rfl) rfl ?_
     refine Ap h4 ?_
     refine At ?_
     refine Ap h4 ?_
     refine Bx (c := .sc (.int .i64 b.fId)) B2 (Bs rfl) rfl ?_
     refine Ap h4 ?_
     refine B9 (v := .sc (.bool (a.fId == b.fId))) (fun k => rfl) ?_
     refine Cb h4 (Er q4 h4) ?_
     exact rfl
    ·refine Ao h4 ?_
     refine Ao h4 ?_
     refine Ao h4 ?_
     refine Ao h4 ?_
     refine Ao h4 ?_
     refine Ca h4 (Ep q4 h4) ?_
     exact rfl
   intro b4 q4
   apply Bc (b4 && (a.fTopic.toList == b.fTopic.toList))
   ·intro b5 q5
    refine Ac (b4) (fun h5 => ?_) (fun h5 => ?_)
    ·refine Ap h5 ?_
     refine At ?_
     refine Ap h5 ?_
     refine Bx (c := .sc (.string a.fTopic)) B1 (Bs rfl) rfl ?_
     refine Ap h5 ?_
     refine At ?_
     refine Ap h5 ?_
     refine Bx (c := .sc (.string b.fTopic)) B2 (Bs rfl) rfl ?_
     refine Ap h5 ?_
     refine B9 (v := .sc (.bool (a.fTopic.toList == b.fTopic.toList))) (fun k => rfl) ?_
     refine Cb h5 (Er q5 h5) ?_
     exact rfl
    ·refine Ao h5 ?_
     refine Ao h5 ?_
     refine Ao h5 ?_
     refine Ao h5 ?_
     refine Ao h5 ?_
     refine Ca h5 (Ep q5 h5) ?_
     exact rfl
   intro b5 q5
   apply Bc (b5 && (a.fBody.toList == b.fBody.toList))
   ·intro b6 q6
    refine Ac (b5) (fun h6 => ?_) (fun h6 => ?_)
    ·refine Ap h6 ?_
     refine At ?_
     refine Ap h6 ?_
     refine Bx (c := Ax a.fBody) B1 (Bs rfl) rfl ?_
     refine Ap h6 ?_
     refine At ?_
     refine Ap h6 ?_
     refine Bx (c := Ax b.fBody) B2 (Bs rfl) rfl ?_
     refine Ap h6 ?_
     refine Fk rfl (Cn (Gy _ _ _) (Cn (Gy _ _ _) Fp)) (Sn (n + 0) _ a.fBody b.fBody) ?_
     refine Cb h6 (Er q6 h6) ?_
     exact rfl
    ·refine Ao h6 ?_
     refine Ao h6 ?_
     refine Ao h6 ?_
     refine Ao h6 ?_
     refine Ao h6 ?_
     refine Ca h6 (Ep q6 h6) ?_
     exact rfl
   intro b6 q6
   apply Bc (b6 && (a.fClient.toList == b.fClient.toList))
   ·intro b7 q7
    refine Ac (b6) (fun h7 => ?_) (fun h7 => ?_)
    ·refine Ap h7 ?_
     refine At ?_
     refine Ap h7 ?_
     refine Bx (c := .sc (.string a.fClient)) B1 (Bs rfl) rfl ?_
     refine Ap h7 ?_
     refine At ?_
     refine Ap h7 ?_
     refine Bx (c := .sc (.string b.fClient)) B2 (Bs rfl) rfl ?_
     refine Ap h7 ?_
     refine B9 (v := .sc (.bool (a.fClient.toList == b.fClient.toList))) (fun k => rfl) ?_
     refine Cb h7 (Er q7 h7) ?_
     exact rfl
    ·refine Ao h7 ?_
     refine Ao h7 ?_
     refine Ao h7 ?_
     refine Ao h7 ?_
     refine Ao h7 ?_
     refine Ca h7 (Ep q7 h7) ?_
     exact rfl
   intro b7 q7
   apply Bc (b7 && (a.fLevel == b.fLevel))
   ·intro b8 q8
    refine Ac (b7) (fun h8 => ?_) (fun h8 => ?_)
    ·refine Ap h8 ?_
     refine At ?_
     refine Ap h8 ?_
     refine Bx (c := .sc (.int .i64 a.fLevel)) B1 (Bs rfl) rfl ?_
     refine Ap h8 ?_
     refine At ?_
     refine Ap h8 ?_
     refine Bx (c := .sc (.int .i64 b.fLevel)) B2 (Bs rfl) rfl ?_
     refine Ap h8 ?_
     refine B9 (v := .sc (.bool (a.fLevel == b.fLevel))) (fun k => rfl) ?_
     refine Cb h8 (Er q8 h8) ?_
     exact rfl
    ·refine Ao h8 ?_
     refine Ao h8 ?_
     refine Ao h8 ?_
     refine Ao h8 ?_
     refine Ao h8 ?_
     refine Ca h8 (Ep q8 h8) ?_
     exact rfl
   intro b8 q8
   apply Bc (b8 && (a.fClean == b.fClean))
   ·intro b9 q9
    refine Ac (b8) (fun h9 => ?_) (fun h9 => ?_)
    ·refine Ap h9 ?_
     refine At ?_
     refine Ap h9 ?_
     refine Bx (c := .sc (.bool a.fClean)) B1 (Bs rfl) rfl ?_
     refine Ap h9 ?_
     refine At ?_
     refine Ap h9 ?_
     refine Bx (c := .sc (.bool b.fClean)) B2 (Bs rfl) rfl ?_
     refine Ap h9 ?_
     refine Fq (v := .sc (.bool (a.fClean == b.fClean))) (fun k => rfl) ?_
     refine Cb h9 (Er q9 h9) ?_
     exact rfl
    ·refine Ao h9 ?_
     refine Ao h9 ?_
     refine Ao h9 ?_
     refine Ao h9 ?_
     refine Ao h9 ?_
     refine Ca h9 (Ep q9 h9) ?_
     exact rfl
   intro b9 q9
   apply Bc (b9 && (a.fKeep == b.fKeep))
   ·intro b10 q10
    refine Ac (b9) (fun h10 => ?_) (fun h10 => ?_)
    ·refine Ap h10 ?_
     refine At ?_
     refine Ap h10 ?_
     refine Bx (c := .sc (.int .i64 a.fKeep)) B1 (Bs rfl) rfl ?_
     refine Ap h10 ?_
     refine At ?_
     refine Ap h10 ?_
     refine Bx (c := .sc (.int .i64 b.fKeep)) B2 (Bs rfl) rfl ?_
     refine Ap h10 ?_
     refine B9 (v := .sc (.bool (a.fKeep == b.fKeep))) (fun k => rfl) ?_
     refine Cb h10 (Er q10 h10) ?_
     exact rfl
    ·refine Ao h10 ?_
     refine Ao h10 ?_
     refine Ao h10 ?_
     refine Ao h10 ?_
     refine Ao h10 ?_
     refine Ca h10 (Ep q10 h10) ?_
     exact rfl
   intro b10 q10
   apply Bc (b10 && (a.fHasWill == b.fHasWill))
   ·intro b11 q11
    refine Ac (b10) (fun h11 => ?_) (fun h11 => ?_)
    ·refine Ap h11 ?_
     refine At ?_
     refine Ap h11 ?_
     refine Bx (c := .sc (.bool a.fHasWill)) B1 (Bs rfl) rfl ?_
     refine Ap h11 ?_
     refine At ?_
     refine Ap h11 ?_
     refine Bx (c := .sc (.bool b.fHasWill)) B2 (Bs rfl) rfl ?_
     refine Ap h11 ?_
     refine Fq (v := .sc (.bool (a.fHasWill == b.fHasWill))) (fun k => rfl) ?_
     refine Cb h11 (Er q11 h11) ?_
     exact rfl
    ·refine Ao h11 ?_
     refine Ao h11 ?_
     refine Ao h11 ?_
     refine Ao h11 ?_
     refine Ao h11 ?_
     refine Ca h11 (Ep q11 h11) ?_
     exact rfl
   intro b11 q11
   apply Bc (b11 && (a.fWTopic.toList == b.fWTopic.toList))
   ·intro b12 q12
    refine Ac (b11) (fun h12 => ?_) (fun h12 => ?_)
    ·refine Ap h12 ?_
     refine At ?_
     refine Ap h12 ?_
     refine Bx (c := .sc (.string a.fWTopic)) B1 (Bs rfl) rfl ?_
     refine Ap h12 ?_
     refine At ?_
     refine Ap h12 ?_
     refine Bx (c := .sc (.string b.fWTopic)) B2 (Bs rfl) rfl ?_
     refine Ap h12 ?_
     refine B9 (v := .sc (.bool (a.fWTopic.toList == b.fWTopic.toList))) (fun k => rfl) ?_
     refine Cb h12 (Er q12 h12) ?_
     exact rfl
    ·refine Ao h12 ?_
     refine Ao h12 ?_
     refine Ao h12 ?_
     refine Ao h12 ?_
     refine Ao h12 ?_
     refine Ca h12 (Ep q12 h12) ?_
     exact rfl
   intro b12 q12
   apply Bc (b12 && (a.fWBody.toList == b.fWBody.toList))
   ·intro b13 q13
    refine Ac (b12) (fun h13 => ?_) (fun h13 => ?_)
    ·refine Ap h13 ?_
     refine At ?_
     refine Ap h13 ?_
     refine Bx (c := Ax a.fWBody) B1 (Bs rfl) rfl ?_
     refine Ap h13 ?_
     refine At ?_
     refine Ap h13 ?_
     refine Bx (c := Ax b.fWBody) B2 (Bs rfl) rfl ?_
     refine Ap h13 ?_
     refine Fk rfl (Cn (Gy _ _ _) (Cn (Gy _ _ _) Fp)) (Sn (n + 0) _ a.fWBody b.fWBody) ?_
     refine Cb h13 (Er q13 h13) ?_
     exact rfl
    ·refine Ao h13 ?_
     refine Ao h13 ?_
     refine Ao h13 ?_
     refine Ao h13 ?_
     refine Ao h13 ?_
     refine Ca h13 (Ep q13 h13) ?_
     exact rfl
   intro b13 q13
   apply Bc (b13 && (a.fWQos == b.fWQos))
   ·intro b14 q14
    refine Ac (b13) (fun h14 => ?_) (fun h14 => ?_)
    ·refine Ap h14 ?_
     refine At ?_
     refine Ap h14 ?_
     refine Bx (c := .sc (.int .i64 a.fWQos)) B1 (Bs rfl) rfl ?_
     refine Ap h14 ?_
     refine At ?_
     refine Ap h14 ?_
     refine Bx (c := .sc (.int .i64 b.fWQos)) B2 (Bs rfl) rfl ?_
     refine Ap h14 ?_
     refine B9 (v := .sc (.bool (a.fWQos == b.fWQos))) (fun k => rfl) ?_
     refine Cb h14 (Er q14 h14) ?_
     exact rfl
    ·refine Ao h14 ?_
     refine Ao h14 ?_
     refine Ao h14 ?_
     refine Ao h14 ?_
     refine Ao h14 ?_
     refine Ca h14 (Ep q14 h14) ?_
     exact rfl
   intro b14 q14
   apply Bc (b14 && (a.fWRetain == b.fWRetain))
   ·intro b15 q15
    refine Ac (b14) (fun h15 => ?_) (fun h15 => ?_)
    ·refine Ap h15 ?_
     refine At ?_
     refine Ap h15 ?_
     refine Bx (c := .sc (.bool a.fWRetain)) B1 (Bs rfl) rfl ?_
     refine Ap h15 ?_
     refine At ?_
     refine Ap h15 ?_
     refine Bx (c := .sc (.bool b.fWRetain)) B2 (Bs rfl) rfl ?_
     refine Ap h15 ?_
     refine Fq (v := .sc (.bool (a.fWRetain == b.fWRetain))) (fun k => rfl) ?_
     refine Cb h15 (Er q15 h15) ?_
     exact rfl
    ·refine Ao h15 ?_
     refine Ao h15 ?_
     refine Ao h15 ?_
     refine Ao h15 ?_
     refine Ao h15 ?_
     refine Ca h15 (Ep q15 h15) ?_
     exact rfl
   intro b15 q15
   apply Bc (b15 && (a.fHasUser == b.fHasUser))
   ·intro b16 q16
    refine Ac (b15) (fun h16 => ?_) (fun h16 => ?_)
    ·refine Ap h16 ?_
     refine At ?_
     refine Ap h16 ?_
     refine Bx (c := .sc (.bool a.fHasUser)) B1 (Bs rfl) rfl ?_
     refine Ap h16 ?_
     refine At ?_
     refine Ap h16 ?_
     refine Bx (c := .sc (.bool b.fHasUser)) B2 (Bs rfl) rfl ?_
     refine Ap h16 ?_
     refine Fq (v := .sc (.bool (a.fHasUser == b.fHasUser))) (fun k => rfl) ?_
     refine Cb h16 (Er q16 h16) ?_
     exact rfl
    ·refine Ao h16 ?_
     refine Ao h16 ?_
     refine Ao h16 ?_
     refine Ao h16 ?_
     refine Ao h16 ?_
     refine Ca h16 (Ep q16 h16) ?_
     exact rfl
   intro b16 q16
   apply Bc (b16 && (a.fUser.toList == b.fUser.toList))
   ·intro b17 q17
    refine Ac (b16) (fun h17 => ?_) (fun h17 => ?_)
    ·refine Ap h17 ?_
     refine At ?_
     refine Ap h17 ?_
     refine Bx (c := .sc (.string a.fUser)) B1 (Bs rfl) rfl ?_
     refine Ap h17 ?_
     refine At ?_
     refine Ap h17 ?_
     refine Bx (c := .sc (.string b.fUser)) B2 (Bs rfl) rfl ?_
     refine Ap h17 ?_
     refine B9 (v := .sc (.bool (a.fUser.toList == b.fUser.toList))) (fun k => rfl) ?_
     refine Cb h17 (Er q17 h17) ?_
     exact rfl
    ·refine Ao h17 ?_
     refine Ao h17 ?_
     refine Ao h17 ?_
     refine Ao h17 ?_
     refine Ao h17 ?_
     refine Ca h17 (Ep q17 h17) ?_
     exact rfl
   intro b17 q17
   apply Bc (b17 && (a.fHasPass == b.fHasPass))
   ·intro b18 q18
    refine Ac (b17) (fun h18 => ?_) (fun h18 => ?_)
    ·refine Ap h18 ?_
     refine At ?_
     refine Ap h18 ?_
     refine Bx (c := .sc (.bool a.fHasPass)) B1 (Bs rfl) rfl ?_
     refine Ap h18 ?_
     refine At ?_
     refine Ap h18 ?_
     refine Bx (c := .sc (.bool b.fHasPass)) B2 (Bs rfl) rfl ?_
     refine Ap h18 ?_
     refine Fq (v := .sc (.bool (a.fHasPass == b.fHasPass))) (fun k => rfl) ?_
     refine Cb h18 (Er q18 h18) ?_
     exact rfl
    ·refine Ao h18 ?_
     refine Ao h18 ?_
     refine Ao h18 ?_
     refine Ao h18 ?_
     refine Ao h18 ?_
     refine Ca h18 (Ep q18 h18) ?_
     exact rfl
   intro b18 q18
   apply Bc (b18 && (a.fPass.toList == b.fPass.toList))
   ·intro b19 q19
    refine Ac (b18) (fun h19 => ?_) (fun h19 => ?_)
    ·refine Ap h19 ?_
     refine At ?_
     refine Ap h19 ?_
     refine Bx (c := Ax a.fPass) B1 (Bs rfl) rfl ?_
     refine Ap h19 ?_
     refine At ?_
     refine Ap h19 ?_
     refine Bx (c := Ax b.fPass) B2 (Bs rfl) rfl ?_
     refine Ap h19 ?_
     refine Fk rfl (Cn (Gy _ _ _) (Cn (Gy _ _ _) Fp)) (Sn (n + 0) _ a.fPass b.fPass) ?_
     refine Cb h19 (Er q19 h19) ?_
     exact rfl
    ·refine Ao h19 ?_
     refine Ao h19 ?_
     refine Ao h19 ?_
     refine Ao h19 ?_
     refine Ao h19 ?_
     refine Ca h19 (Ep q19 h19) ?_
     exact rfl
   intro b19 q19
   apply Bc (b19 && (a.fCode == b.fCode))
   ·intro b20 q20
    refine Ac (b19) (fun h20 => ?_) (fun h20 => ?_)
    ·refine Ap h20 ?_
     refine At ?_
     refine Ap h20 ?_
     refine Bx (c := .sc (.int .i64 a.fCode)) B1 (Bs rfl) rfl ?_
     refine Ap h20 ?_
     refine At ?_
     refine Ap h20 ?_
     refine Bx (c := .sc (.int .i64 b.fCode)) B2 (Bs rfl) rfl ?_
     refine Ap h20 ?_
     refine B9 (v := .sc (.bool (a.fCode == b.fCode))) (fun k => rfl) ?_
     refine Cb h20 (Er q20 h20) ?_
     exact rfl
    ·refine Ao h20 ?_
     refine Ao h20 ?_
     refine Ao h20 ?_
     refine Ao h20 ?_
     refine Ao h20 ?_
     refine Ca h20 (Ep q20 h20) ?_
     exact rfl
   intro b20 q20
   apply Bc (b20 && (a.fPresent == b.fPresent))
   ·intro b21 q21
    refine Ac (b20) (fun h21 => ?_) (fun h21 => ?_)
    ·refine Ap h21 ?_
     refine At ?_
     refine Ap h21 ?_
     refine Bx (c := .sc (.bool a.fPresent)) B1 (Bs rfl) rfl ?_
     refine Ap h21 ?_
     refine At ?_
     refine Ap h21 ?_
     refine Bx (c := .sc (.bool b.fPresent)) B2 (Bs rfl) rfl ?_
     refine Ap h21 ?_
     refine Fq (v := .sc (.bool (a.fPresent == b.fPresent))) (fun k => rfl) ?_
     refine Cb h21 (Er q21 h21) ?_
     exact rfl
    ·refine Ao h21 ?_
     refine Ao h21 ?_
     refine Ao h21 ?_
     refine Ao h21 ?_
     refine Ao h21 ?_
     refine Ca h21 (Ep q21 h21) ?_
     exact rfl
   intro b21 q21
   subst_vars; rfl
 have key := Hy (β := AV) O8 (fun _ => rfl) (by decide) (fun z => .sc (.int .i64 z)) (fun p k => Bz false 1 p H k) (fun x r k => ldI x r H k) (fun x y k => Cg .neq x y k) Uk (fun x y k => neI x y k) a.fCodes b.fCodes hq2 hl2 (fun m i => Ik (PR (n + 1) AV) (n + 1) (fun x H => A7 As E0.tp ty H x) m (.ptr i1 0) (.ptr i2 0) i H) (some (.sc (.bool false))) (some (.sc (.bool (Ez a b)))) hL a.fCodes b.fCodes [] [] (n + 1) rfl rfl rfl (by omega)
 simp only [List.length_nil, Int.natCast_zero] at key
 refine key.trans ?_
 cases G9 Uk a.fCodes b.fCodes <;> rfl
theorem Aee (n : Nat) (hn : 1048576 < n) (ty : Nat) (a b : Ar) (H : Af) (i1 i2 : Nat) (B1 : H[i1]? = some ⟨A6 a, true, true⟩) (B2 : H[i2]? = some ⟨A6 b, true, true⟩) (hl1 : a.fNames.length ≤ 1048576) (hq1 : a.fNames.length = b.fNames.length) (hl2 : a.fCodes.length ≤ 1048576) (hq2 : a.fCodes.length = b.fCodes.length) : G5 (PR (n + 1) AV) (n + 1) (fun x H => A7 As E0.tp ty H x) (n + 1) (.ptr i1 0) (.ptr i2 0) (.sc (.int .i64 0)) H = some (.sc (.bool (if G9 Nc a.fNames b.fNames then (if G9 Uk a.fCodes b.fCodes then (Ez a b) else false) else false))) := by
 have hL : ∀ m i, G5 (PR (n + 1) AV) (n + 1) (fun x H => A7 As E0.tp ty H x) (m + 1) (.ptr i1 0) (.ptr i2 0) i H = Cg .lss i (.sc (.int .i64 a.fNames.length)) fun t14 => Cy t14 (C4 1 (Bq O9 a.fNames) i fun t19 => Bz false 1 t19 H fun t20 => C4 1 (Bq O9 b.fNames) i fun t23 => Bz false 1 t23 H fun t24 => (fun x y k => Cg .neq x y k) t20 t24 fun t25 => Cy t25 (some (.sc (.bool false))) (Cg .add i (.sc (.int .i64 1)) fun t16 => G5 (PR (n + 1) AV) (n + 1) (fun x H => A7 As E0.tp ty H x) m (.ptr i1 0) (.ptr i2 0) t16 H)) (some (.sc (.bool (if G9 Uk a.fCodes b.fCodes then (Ez a b) else false)))) := by
  intro m i
  show (PR (n + 1) AV).fadr 23 (.ptr i1 0) _ = _
  simp only [A8, Az, A2, Do, E5, Ay, A1, Be, Bu, Bw]
  refine At ?_
  refine Bx (c := Dc a.fNames) B1 (Bs rfl) rfl ?_
  refine Hl ?_
  congr 1
  funext t
  congr 1
  ·refine At ?_
   refine Bx (c := Dc a.fNames) B1 (Bs rfl) rfl ?_
   rw [Jh]
   congr 1
   funext t2
   congr 1
   funext t3
   refine At ?_
   refine Bx (c := Dc b.fNames) B2 (Bs rfl) rfl ?_
   rw [Jh]
   rfl
  ·skip
   exact Aef n hn ty a b H i1 i2 B1 B2 hl2 hq2
 have key := Hy (β := AV) O9 (fun _ => rfl) (by decide) (fun z => .sc (.string z)) (fun p k => Bz false 1 p H k) (fun x r k => ldS x r H k) (fun x y k => Cg .neq x y k) Nc (fun x y k => neS x y k) a.fNames b.fNames hq1 hl1 (fun m i => G5 (PR (n + 1) AV) (n + 1) (fun x H => A7 As E0.tp ty H x) m (.ptr i1 0) (.ptr i2 0) i H) (some (.sc (.bool false))) (some (.sc (.bool (if G9 Uk a.fCodes b.fCodes then (Ez a b) else false)))) hL a.fNames b.fNames [] [] (n + 1) rfl rfl rfl (by omega)
 simp only [List.length_nil, Int.natCast_zero] at key
 refine key.trans ?_
 cases G9 Nc a.fNames b.fNames <;> rfl
theorem Aed (n : Nat) (hn : 1048576 < n) (ty : Nat) (a b : Ar) (H : Af) (i1 i2 : Nat) (B1 : H[i1]? = some ⟨A6 a, true, true⟩) (B2 : H[i2]? = some ⟨A6 b, true, true⟩) (hl0 : a.fWants.length ≤ 1048576) (hq0 : a.fWants.length = b.fWants.length) (hl1 : a.fNames.length ≤ 1048576) (hq1 : a.fNames.length = b.fNames.length) (hl2 : a.fCodes.length ≤ 1048576) (hq2 : a.fCodes.length = b.fCodes.length) : G4 (PR (n + 1) AV) (n + 1) (fun x H => A7 As E0.tp ty H x) (n + 1) (.ptr i1 0) (.ptr i2 0) (.sc (.int .i64 0)) H = some (.sc (.bool (if G9 He a.fWants b.fWants then (if G9 Nc a.fNames b.fNames then (if G9 Uk a.fCodes b.fCodes then (Ez a b) else false) else false) else false))) := by
 have hL : ∀ m i, G4 (PR (n + 1) AV) (n + 1) (fun x H => A7 As E0.tp ty H x) (m + 1) (.ptr i1 0) (.ptr i2 0) i H = Cg .lss i (.sc (.int .i64 a.fWants.length)) fun t14 => Cy t14 (C4 2 (Bq Bg a.fWants) i fun t19 => Bz true 2 t19 H fun t20 => C4 2 (Bq Bg b.fWants) i fun t23 => Bz true 2 t23 H fun t24 => (fun x y k => Mw .neq [1, 0] x y k) t20 t24 fun t25 => Cy t25 (some (.sc (.bool false))) (Cg .add i (.sc (.int .i64 1)) fun t16 => G4 (PR (n + 1) AV) (n + 1) (fun x H => A7 As E0.tp ty H x) m (.ptr i1 0) (.ptr i2 0) t16 H)) (some (.sc (.bool (if G9 Nc a.fNames b.fNames then (if G9 Uk a.fCodes b.fCodes then (Ez a b) else false) else false)))) := by
  intro m i
  show (PR (n + 1) AV).fadr 22 (.ptr i1 0) _ = _
  simp only [A8, Az, A2, Do, E5, Ay, A1, Be, Bu, Bw]
  refine At ?_
  refine Bx (c := Bq Bg a.fWants) B1 (Bs rfl) rfl ?_
  refine Hl ?_
  congr 1
  funext t
  congr 1
  ·refine At ?_
   refine Bx (c := Bq Bg a.fWants) B1 (Bs rfl) rfl ?_
   congr 1
   funext t2
   congr 1
   funext t3
   refine At ?_
   refine Bx (c := Bq Bg b.fWants) B2 (Bs rfl) rfl ?_
   rfl
  ·skip
   exact Aee n hn ty a b H i1 i2 B1 B2 hl1 hq1 hl2 hq2
 have key := Hy (β := AV) Bg (E6) (by decide) (fun x => .agg (Bg x)) (fun p k => Bz true 2 p H k) (fun x r k => P1 2 _ _ H k (E6 x)) (fun x y k => Mw .neq [1, 0] x y k) He (fun x y k => Wi _ _ _ _ (Ra x y) k) a.fWants b.fWants hq0 hl0 (fun m i => G4 (PR (n + 1) AV) (n + 1) (fun x H => A7 As E0.tp ty H x) m (.ptr i1 0) (.ptr i2 0) i H) (some (.sc (.bool false))) (some (.sc (.bool (if G9 Nc a.fNames b.fNames then (if G9 Uk a.fCodes b.fCodes then (Ez a b) else false) else false)))) hL a.fWants b.fWants [] [] (n + 1) rfl rfl rfl (by omega)
 simp only [List.length_nil, Int.natCast_zero] at key
 refine key.trans ?_
 cases G9 He a.fWants b.fWants <;> rfl
theorem Fy (n : Nat) (hn : 1048576 < n) (ty : Nat) (a : Ar) (b : Ar) (hl0 : a.fWants.length ≤ 1048576) (hl1 : a.fNames.length ≤ 1048576) (hl2 : a.fCodes.length ≤ 1048576) : Bv E0 (n + 2) ty 141 [.agg (A6 a), .agg (A6 b)] = some (.sc (.bool (A3 a b))) := by
 rw [Av, AcO, f141]
 try simp only [Cl, Dm, A8, Az, Cw, A2, Do, E5, Cr, Ay, A1, Be, Bu, C7, Bw, Gi, E7, D5, Em, Dp, Gj, Gz, Gh, Fe]
 refine R2 (B4 _) fun iB1 eB1 B1 => ?_
 refine R2 (B4 _) fun iB2 eB2 B2 => ?_
 replace B1 := Hw B1 [⟨A6 b, true, true⟩]
 refine At ?_
 refine Bx (c := Bq Bg a.fWants) B1 (Bs rfl) rfl ?_
 refine Hl ?_
 refine At ?_
 refine Bx (c := Bq Bg b.fWants) B2 (Bs rfl) rfl ?_
 refine Hl ?_
 refine B9 (v := .sc (.bool ((a.fWants.length : Int) != (b.fWants.length : Int)))) (fun k => rfl) ?_
 apply Bc (((a.fWants.length : Int) != (b.fWants.length : Int)) || ((a.fNames.length : Int) != (b.fNames.length : Int)))
 ·intro b3 q3
  refine Ac (((a.fWants.length : Int) != (b.fWants.length : Int))) (fun h3 => ?_) (fun h3 => ?_)
  ·refine Gv h3 ?_
   refine Gv h3 ?_
   refine Gv h3 ?_
   refine Gv h3 ?_
   refine Gv h3 ?_
   refine Gv h3 ?_
   refine Gv h3 ?_
   refine Cb h3 (Rn q3 h3) ?_
   exact rfl
  ·refine Fw h3 ?_
   refine At ?_
   refine Fw h3 ?_
   refine Bx (c := Dc a.fNames) B1 (Bs rfl) rfl ?_
   refine Fw h3 ?_
   refine Hl ?_
   refine Fw h3 ?_
   refine At ?_
   refine Fw h3 ?_
   refine Bx (c := Dc b.fNames) B2 (Bs rfl) rfl ?_
   refine Fw h3 ?_
   refine Hl ?_
   refine Fw h3 ?_
   refine B9 (v := .sc (.bool ((a.fNames.length : Int) != (b.fNames.length : Int)))) (fun k => rfl) ?_
   refine Ca h3 (Rm q3 h3) ?_
   exact rfl
 intro b3 q3
 apply Bc (b3 || ((a.fCodes.length : Int) != (b.fCodes.length : Int)))
 ·intro b4 q4
  refine Ac (b3) (fun h4 => ?_) (fun h4 => ?_)
  ·refine Gv h4 ?_
   refine Gv h4 ?_
   refine Gv h4 ?_
   refine Gv h4 ?_
   refine Gv h4 ?_
   refine Gv h4 ?_
   refine Gv h4 ?_
   refine Cb h4 (Rn q4 h4) ?_
   exact rfl
  ·refine Fw h4 ?_
   refine At ?_
   refine Fw h4 ?_
   refine Bx (c := Dl a.fCodes) B1 (Bs rfl) rfl ?_
   refine Fw h4 ?_
   refine Hl ?_
   refine Fw h4 ?_
   refine At ?_
   refine Fw h4 ?_
   refine Bx (c := Dl b.fCodes) B2 (Bs rfl) rfl ?_
   refine Fw h4 ?_
   refine Hl ?_
   refine Fw h4 ?_
   refine B9 (v := .sc (.bool ((a.fCodes.length : Int) != (b.fCodes.length : Int)))) (fun k => rfl) ?_
   refine Ca h4 (Rm q4 h4) ?_
   exact rfl
 intro b4 q4
 refine Ac (b4) (fun h5 => ?_) (fun h5 => ?_)
 ·refine Kl h5 ?_
  exact Iw (by subst_vars; simp only [A3, Jk, E8]; by_cases e0 : a.fWants.length = b.fWants.length <;> by_cases e1 : a.fNames.length = b.fNames.length <;> by_cases e2 : a.fCodes.length = b.fCodes.length <;> simp_all)
 ·refine L4 h5 ?_
  have l0 : a.fWants.length = b.fWants.length := by (subst_vars; simp at *; omega)
  have l1 : a.fNames.length = b.fNames.length := by (subst_vars; simp at *; omega)
  have l2 : a.fCodes.length = b.fCodes.length := by (subst_vars; simp at *; omega)
  refine (Aed n hn ty a b _ _ _ B1 B2 hl0 l0 hl1 l1 hl2 l2).trans ?_
  simp only [A3, Jk, E8, l0, l1, l2, if_true]
  cases G9 He a.fWants b.fWants <;> cases G9 Nc a.fNames b.fNames <;> cases G9 Uk a.fCodes b.fCodes <;> simp
theorem Fx (n : Nat) (hn : 1048576 < n) (ty : Nat) (a : Ar) (b : Ar) (hl0 : a.fWants.length ≤ 1048576) (hl1 : a.fNames.length ≤ 1048576) (hl2 : a.fCodes.length ≤ 1048576) : Bv E0 (n + 2) ty 82 [.agg (A6 a), .agg (A6 b)] = some (.sc (.bool (A3 a b))) := by
 rw [Av, AfE, f82]
 try simp only [Cl, Dm, A8, Az, Cw, A2, Do, E5, Cr, Ay, A1, Be, Bu, C7, Bw, Gi, E7, D5, Em, Dp, Gj, Gz, Gh, Fe]
 refine R2 (B4 _) fun iB1 eB1 B1 => ?_
 refine R2 (B4 _) fun iB2 eB2 B2 => ?_
 replace B1 := Hw B1 [⟨A6 b, true, true⟩]
 refine At ?_
 refine Bx (c := .sc (.int .i64 a.fType)) B1 (Bs rfl) rfl ?_
 refine At ?_
 refine Bx (c := .sc (.int .i64 b.fType)) B2 (Bs rfl) rfl ?_
 refine B9 (v := .sc (.bool (a.fType == b.fType))) (fun k => rfl) ?_
 apply Bc ((a.fType == b.fType) && (a.fDup == b.fDup))
 ·intro b3 q3
  refine Ac ((a.fType == b.fType)) (fun h3 => ?_) (fun h3 => ?_)
  ·refine Ap h3 ?_
   refine At ?_
   refine Ap h3 ?_
   refine Bx (c := .sc (.bool a.fDup)) B1 (Bs rfl) rfl ?_
   refine Ap h3 ?_
   refine At ?_
   refine Ap h3 ?_
   refine Bx (c := .sc (.bool b.fDup)) B2 (Bs rfl) rfl ?_
   refine Ap h3 ?_
   refine Fq (v := .sc (.bool (a.fDup == b.fDup))) (fun k => rfl) ?_
   refine Cb h3 (Er q3 h3) ?_
   exact rfl
  ·refine Ao h3 ?_
   refine Ao h3 ?_
   refine Ao h3 ?_
   refine Ao h3 ?_
   refine Ao h3 ?_
   refine Ca h3 (Ep q3 h3) ?_
   exact rfl
 intro b3 q3
 apply Bc (b3 && (a.fQos == b.fQos))
 ·intro b4 q4
  refine Ac (b3) (fun h4 => ?_) (fun h4 => ?_)
  ·refine Ap h4 ?_
   refine At ?_
   refine Ap h4 ?_
   refine Bx (c := .sc (.int .i64 a.fQos)) B1 (Bs rfl) rfl ?_
   refine Ap h4 ?_
   refine At ?_
   refine Ap h4 ?_
   refine Bx (c := .sc (.int .i64 b.fQos)) B2 (Bs rfl) rfl ?_
   refine Ap h4 ?_
   refine B9 (v := .sc (.bool (a.fQos == b.fQos))) (fun k => rfl) ?_
   refine Cb h4 (Er q4 h4) ?_
   exact rfl
  ·refine Ao h4 ?_
   refine Ao h4 ?_
   refine Ao h4 ?_
   refine Ao h4 ?_
   refine Ao h4 ?_
   refine Ca h4 (Ep q4 h4) ?_
   exact rfl
 intro b4 q4
 apply Bc (b4 && (a.fRetain == b.fRetain))
 ·intro b5 q5
  refine Ac (b4) (fun h5 => ?_) (fun h5 => ?_)
  ·refine Ap h5 ?_
   refine At ?_
   refine Ap h5 ?_
   refine Bx (c := .sc (.bool a.fRetain)) B1 (Bs rfl) rfl ?_
   refine Ap h5 ?_
   refine At ?_
   refine Ap h5 ?_
   refine Bx (c := .sc (.bool b.fRetain)) B2 (Bs rfl) rfl ?_
   refine Ap h5 ?_
   refine Fq (v := .sc (.bool (a.fRetain == b.fRetain))) (fun k => rfl) ?_
   refine Cb h5 (Er q5 h5) ?_
   exact rfl
  ·refine Ao h5 ?_
   refine Ao h5 ?_
   refine Ao h5 ?_
   refine Ao h5 ?_
   refine Ao h5 ?_
   refine Ca h5 (Ep q5 h5) ?_
   exact rfl
 intro b5 q5
 apply Bc (b5 && (a.fId == b.fId))
 ·intro b6 q6
  refine Ac (b5) (fun h6 => ?_) (fun h6 => ?_)
  ·refine Ap h6 ?_
   refine At ?_
   refine Ap h6 ?_
   refine Bx (c := .sc (.int .i64 a.fId)) B1 (Bs rfl) rfl ?_
   refine Ap h6 ?_
   refine At ?_
   refine Ap h6 ?_
   refine Bx (c := .sc (.int .i64 b.fId)) B2 (Bs rfl) rfl ?_
   refine Ap h6 ?_
   refine B9 (v := .sc (.bool (a.fId == b.fId))) (fun k => rfl) ?_
   refine Cb h6 (Er q6 h6) ?_
   exact rfl
  ·refine Ao h6 ?_
   refine Ao h6 ?_
   refine Ao h6 ?_
   refine Ao h6 ?_
   refine Ao h6 ?_
   refine Ca h6 (Ep q6 h6) ?_
   exact rfl
 intro b6 q6
 apply Bc (b6 && (a.fTopic.toList == b.fTopic.toList))
 ·intro b7 q7
  refine Ac (b6) (fun h7 => ?_) (fun h7 => ?_)
  ·refine Ap h7 ?_
   refine At ?_
   refine Ap h7 ?_
   refine Bx (c := .sc (.string a.fTopic)) B1 (Bs rfl) rfl ?_
   refine Ap h7 ?_
   refine At ?_
   refine Ap h7 ?_
   refine Bx (c := .sc (.string b.fTopic)) B2 (Bs rfl) rfl ?_
   refine Ap h7 ?_
   refine B9 (v := .sc (.bool (a.fTopic.toList == b.fTopic.toList))) (fun k => rfl) ?_
   refine Cb h7 (Er q7 h7) ?_
   exact rfl
  ·refine Ao h7 ?_
   refine Ao h7 ?_
   refine Ao h7 ?_
   refine Ao h7 ?_
   refine Ao h7 ?_
   refine Ca h7 (Ep q7 h7) ?_
   exact rfl
 intro b7 q7
 apply Bc (b7 && (a.fBody.toList == b.fBody.toList))
 ·intro b8 q8
  refine Ac (b7) (fun h8 => ?_) (fun h8 => ?_)
  ·refine Ap h8 ?_
   refine At ?_
   refine Ap h8 ?_
   refine Bx (c := Ax a.fBody) B1 (Bs rfl) rfl ?_
   refine Ap h8 ?_
   refine At ?_
   refine Ap h8 ?_
   refine Bx (c := Ax b.fBody) B2 (Bs rfl) rfl ?_
   refine Ap h8 ?_
   refine Fk rfl (Cn (Gy _ _ _) (Cn (Gy _ _ _) Fp)) (Ig (n + 0) _ a.fBody b.fBody) ?_
   refine Cb h8 (Er q8 h8) ?_
   exact rfl
  ·refine Ao h8 ?_
   refine Ao h8 ?_
   refine Ao h8 ?_
   refine Ao h8 ?_
   refine Ao h8 ?_
   refine Ca h8 (Ep q8 h8) ?_
   exact rfl
 intro b8 q8
 refine At ?_
 refine Bx (c := .sc (.string a.fClient)) B1 (Bs rfl) rfl ?_
 refine At ?_
 refine Bx (c := .sc (.string b.fClient)) B2 (Bs rfl) rfl ?_
 refine B9 (v := .sc (.bool (a.fClient.toList == b.fClient.toList))) (fun k => rfl) ?_
 apply Bc ((a.fClient.toList == b.fClient.toList) && (a.fLevel == b.fLevel))
 ·intro b9 q9
  refine Ac ((a.fClient.toList == b.fClient.toList)) (fun h9 => ?_) (fun h9 => ?_)
  ·refine Ap h9 ?_
   refine At ?_
   refine Ap h9 ?_
   refine Bx (c := .sc (.int .i64 a.fLevel)) B1 (Bs rfl) rfl ?_
   refine Ap h9 ?_
   refine At ?_
   refine Ap h9 ?_
   refine Bx (c := .sc (.int .i64 b.fLevel)) B2 (Bs rfl) rfl ?_
   refine Ap h9 ?_
   refine B9 (v := .sc (.bool (a.fLevel == b.fLevel))) (fun k => rfl) ?_
   refine Cb h9 (Er q9 h9) ?_
   exact rfl
  ·refine Ao h9 ?_
   refine Ao h9 ?_
   refine Ao h9 ?_
   refine Ao h9 ?_
   refine Ao h9 ?_
   refine Ca h9 (Ep q9 h9) ?_
   exact rfl
 intro b9 q9
 apply Bc (b9 && (a.fClean == b.fClean))
 ·intro b10 q10
  refine Ac (b9) (fun h10 => ?_) (fun h10 => ?_)
  ·refine Ap h10 ?_
   refine At ?_
   refine Ap h10 ?_
   refine Bx (c := .sc (.bool a.fClean)) B1 (Bs rfl) rfl ?_
   refine Ap h10 ?_
   refine At ?_
   refine Ap h10 ?_
   refine Bx (c := .sc (.bool b.fClean)) B2 (Bs rfl) rfl ?_
   refine Ap h10 ?_
   refine Fq (v := .sc (.bool (a.fClean == b.fClean))) (fun k => rfl) ?_
   refine Cb h10 (Er q10 h10) ?_
   exact rfl
  ·refine Ao h10 ?_
   refine Ao h10 ?_
   refine Ao h10 ?_
   refine Ao h10 ?_
   refine Ao h10 ?_
   refine Ca h10 (Ep q10 h10) ?_
   exact rfl
 intro b10 q10
 apply Bc (b10 && (a.fKeep == b.fKeep))
 ·intro b11 q11
  refine Ac (b10) (fun h11 => ?_) (fun h11 => ?_)
  ·refine Ap h11 ?_
   refine At ?_
   refine Ap h11 ?_
   refine Bx (c := .sc (.int .i64 a.fKeep)) B1 (Bs rfl) rfl ?_
   refine Ap h11 ?_
   refine At ?_
   refine Ap h11 ?_
   refine Bx (c := .sc (.int .i64 b.fKeep)) B2 (Bs rfl) rfl ?_
   refine Ap h11 ?_
   refine B9 (v := .sc (.bool (a.fKeep == b.fKeep))) (fun k => rfl) ?_
   refine Cb h11 (Er q11 h11) ?_
   exact rfl
  ·refine Ao h11 ?_
   refine Ao h11 ?_
   refine Ao h11 ?_
   refine Ao h11 ?_
   refine Ao h11 ?_
   refine Ca h11 (Ep q11 h11) ?_
   exact rfl
 intro b11 q11
 apply Bc (b11 && (a.fHasUser == b.fHasUser))
 ·intro b12 q12
  refine Ac (b11) (fun h12 => ?_) (fun h12 => ?_)
  ·refine Ap h12 ?_
   refine At ?_
   refine Ap h12 ?_
   refine Bx (c := .sc (.bool a.fHasUser)) B1 (Bs rfl) rfl ?_
   refine Ap h12 ?_
   refine At ?_
   refine Ap h12 ?_
   refine Bx (c := .sc (.bool b.fHasUser)) B2 (Bs rfl) rfl ?_
   refine Ap h12 ?_
   refine Fq (v := .sc (.bool (a.fHasUser == b.fHasUser))) (fun k => rfl) ?_
   refine Cb h12 (Er q12 h12) ?_
   exact rfl
  ·refine Ao h12 ?_
   refine Ao h12 ?_
   refine Ao h12 ?_
   refine Ao h12 ?_
   refine Ao h12 ?_
   refine Ca h12 (Ep q12 h12) ?_
   exact rfl
 intro b12 q12
 apply Bc (b12 && (a.fUser.toList == b.fUser.toList))
 ·intro b13 q13
  refine Ac (b12) (fun h13 => ?_) (fun h13 => ?_)
  ·refine Ap h13 ?_
   refine At ?_
   refine Ap h13 ?_
   refine Bx (c := .sc (.string a.fUser)) B1 (Bs rfl) rfl ?_
   refine Ap h13 ?_
   refine At ?_
   refine Ap h13 ?_
   refine Bx (c := .sc (.string b.fUser)) B2 (Bs rfl) rfl ?_
   refine Ap h13 ?_
   refine B9 (v := .sc (.bool (a.fUser.toList == b.fUser.toList))) (fun k => rfl) ?_
   refine Cb h13 (Er q13 h13) ?_
   exact rfl
  ·refine Ao h13 ?_
   refine Ao h13 ?_
   refine Ao h13 ?_
   refine Ao h13 ?_
   refine Ao h13 ?_
   refine Ca h13 (Ep q13 h13) ?_
   exact rfl
 intro b13 q13
 apply Bc (b13 && (a.fHasPass == b.fHasPass))
 ·intro b14 q14
  refine Ac (b13) (fun h14 => ?_) (fun h14 => ?_)
  ·refine Ap h14 ?_
   refine At ?_
   refine Ap h14 ?_
   refine Bx (c := .sc (.bool a.fHasPass)) B1 (Bs rfl) rfl ?_
   refine Ap h14 ?_
   refine At ?_
   refine Ap h14 ?_
   refine Bx (c := .sc (.bool b.fHasPass)) B2 (Bs rfl) rfl ?_
   refine Ap h14 ?_
   refine Fq (v := .sc (.bool (a.fHasPass == b.fHasPass))) (fun k => rfl) ?_
   refine Cb h14 (Er q14 h14) ?_
   exact rfl
  ·refine Ao h14 ?_
   refine Ao h14 ?_
   refine Ao h14 ?_
   refine Ao h14 ?_
   refine Ao h14 ?_
   refine Ca h14 (Ep q14 h14) ?_
   exact rfl
 intro b14 q14
 apply Bc (b14 && (a.fPass.toList == b.fPass.toList))
 ·intro b15 q15
  refine Ac (b14) (fun h15 => ?_) (fun h15 => ?_)
  ·refine Ap h15 ?_
   refine At ?_
   refine Ap h15 ?_
   refine Bx (c := Ax a.fPass) B1 (Bs rfl) rfl ?_
   refine Ap h15 ?_
   refine At ?_
   refine Ap h15 ?_
   refine Bx (c := Ax b.fPass) B2 (Bs rfl) rfl ?_
   refine Ap h15 ?_
   refine Fk rfl (Cn (Gy _ _ _) (Cn (Gy _ _ _) Fp)) (Ig (n + 0) _ a.fPass b.fPass) ?_
   refine Cb h15 (Er q15 h15) ?_
   exact rfl
  ·refine Ao h15 ?_
   refine Ao h15 ?_
   refine Ao h15 ?_
   refine Ao h15 ?_
   refine Ao h15 ?_
   refine Ca h15 (Ep q15 h15) ?_
   exact rfl
 intro b15 q15
 refine At ?_
 refine Bx (c := .sc (.bool a.fHasWill)) B1 (Bs rfl) rfl ?_
 refine At ?_
 refine Bx (c := .sc (.bool b.fHasWill)) B2 (Bs rfl) rfl ?_
 refine Fq (v := .sc (.bool (a.fHasWill == b.fHasWill))) (fun k => rfl) ?_
 apply Bc ((a.fHasWill == b.fHasWill) && (a.fWTopic.toList == b.fWTopic.toList))
 ·intro b16 q16
  refine Ac ((a.fHasWill == b.fHasWill)) (fun h16 => ?_) (fun h16 => ?_)
  ·refine Ap h16 ?_
   refine At ?_
   refine Ap h16 ?_
   refine Bx (c := .sc (.string a.fWTopic)) B1 (Bs rfl) rfl ?_
   refine Ap h16 ?_
   refine At ?_
   refine Ap h16 ?_
   refine Bx (c := .sc (.string b.fWTopic)) B2 (Bs rfl) rfl ?_
   refine Ap h16 ?_
   refine B9 (v := .sc (.bool (a.fWTopic.toList == b.fWTopic.toList))) (fun k => rfl) ?_
   refine Cb h16 (Er q16 h16) ?_
   exact rfl
  ·refine Ao h16 ?_
   refine Ao h16 ?_
   refine Ao h16 ?_
   refine Ao h16 ?_
   refine Ao h16 ?_
   refine Ca h16 (Ep q16 h16) ?_
   exact rfl
 intro b16 q16
 apply Bc (b16 && (a.fWBody.toList == b.fWBody.toList))
 ·intro b17 q17
  refine Ac (b16) (fun h17 => ?_) (fun h17 => ?_)
  ·refine Ap h17 ?_
   refine At ?_
   refine Ap h17 ?_
   refine Bx (c := Ax a.fWBody) B1 (Bs rfl) rfl ?_
   refine Ap h17 ?_
   refine At ?_
   refine Ap h17 ?_
   refine Bx (c := Ax b.fWBody) B2 (Bs rfl) rfl ?_
   refine Ap h17 ?_
   refine Fk rfl (Cn (Gy _ _ _) (Cn (Gy _ _ _) Fp)) (Ig (n + 0) _ a.fWBody b.fWBody) ?_
   refine Cb h17 (Er q17 h17) ?_
   exact rfl
  ·refine Ao h17 ?_
   refine Ao h17 ?_
   refine Ao h17 ?_
   refine Ao h17 ?_
   refine Ao h17 ?_
   refine Ca h17 (Ep q17 h17) ?_
   exact rfl
 intro b17 q17
 apply Bc (b17 && (a.fWQos == b.fWQos))
 ·intro b18 q18
  refine Ac (b17) (fun h18 => ?_) (fun h18 => ?_)
  ·refine Ap h18 ?_
   refine At ?_
   refine Ap h18 ?_
   refine Bx (c := .sc (.int .i64 a.fWQos)) B1 (Bs rfl) rfl ?_
   refine Ap h18 ?_
   refine At ?_
   refine Ap h18 ?_
   refine Bx (c := .sc (.int .i64 b.fWQos)) B2 (Bs rfl) rfl ?_
   refine Ap h18 ?_
   refine B9 (v := .sc (.bool (a.fWQos == b.fWQos))) (fun k => rfl) ?_
   refine Cb h18 (Er q18 h18) ?_
   exact rfl
  ·refine Ao h18 ?_
   refine Ao h18 ?_
   refine Ao h18 ?_
   refine Ao h18 ?_
   refine Ao h18 ?_
   refine Ca h18 (Ep q18 h18) ?_
   exact rfl
 intro b18 q18
 apply Bc (b18 && (a.fWRetain == b.fWRetain))
 ·intro b19 q19
  refine Ac (b18) (fun h19 => ?_) (fun h19 => ?_)
  ·refine Ap h19 ?_
   refine At ?_
   refine Ap h19 ?_
   refine Bx (c := .sc (.bool a.fWRetain)) B1 (Bs rfl) rfl ?_
   refine Ap h19 ?_
   refine At ?_
   refine Ap h19 ?_
   refine Bx (c := .sc (.bool b.fWRetain)) B2 (Bs rfl) rfl ?_
   refine Ap h19 ?_
   refine Fq (v := .sc (.bool (a.fWRetain == b.fWRetain))) (fun k => rfl) ?_
   refine Cb h19 (Er q19 h19) ?_
   exact rfl
  ·refine Ao h19 ?_
   refine Ao h19 ?_
   refine Ao h19 ?_
   refine Ao h19 ?_
   refine Ao h19 ?_
   refine Ca h19 (Ep q19 h19) ?_
   exact rfl
 intro b19 q19
 refine At ?_
 refine Bx (c := Bq Bg a.fWants) B1 (Bs rfl) rfl ?_
 refine At ?_
 refine Bx (c := Bq Bg b.fWants) B2 (Bs rfl) rfl ?_
 refine Fk rfl (Cn (Gy _ _ _) (Cn (Gy _ _ _) Fp)) (Uz (n + 0) (by omega) _ a.fWants b.fWants (by omega)) ?_
 apply Bc ((E8 He a.fWants b.fWants) && (E8 Nc a.fNames b.fNames))
 ·intro b20 q20
  refine Ac ((E8 He a.fWants b.fWants)) (fun h20 => ?_) (fun h20 => ?_)
  ·refine Ap h20 ?_
   refine At ?_
   refine Ap h20 ?_
   refine Bx (c := Dc a.fNames) B1 (Bs rfl) rfl ?_
   refine Ap h20 ?_
   refine At ?_
   refine Ap h20 ?_
   refine Bx (c := Dc b.fNames) B2 (Bs rfl) rfl ?_
   refine Ap h20 ?_
   refine Fk rfl (Cn (Gy _ _ _) (Cn (Gy _ _ _) Fp)) (X9 (n + 0) (by omega) _ a.fNames b.fNames (by omega)) ?_
   refine Cb h20 (Er q20 h20) ?_
   exact rfl
  ·refine Ao h20 ?_
   refine Ao h20 ?_
   refine Ao h20 ?_
   refine Ao h20 ?_
   refine Ao h20 ?_
   refine Ca h20 (Ep q20 h20) ?_
   exact rfl
 intro b20 q20
 apply Bc (b20 && (E8 Uk a.fCodes b.fCodes))
 ·intro b21 q21
  refine Ac (b20) (fun h21 => ?_) (fun h21 => ?_)
  ·refine Ap h21 ?_
   refine At ?_
   refine Ap h21 ?_
   refine Bx (c := Dl a.fCodes) B1 (Bs rfl) rfl ?_
   refine Ap h21 ?_
   refine At ?_
   refine Ap h21 ?_
   refine Bx (c := Dl b.fCodes) B2 (Bs rfl) rfl ?_
   refine Ap h21 ?_
   refine Fk rfl (Cn (Gy _ _ _) (Cn (Gy _ _ _) Fp)) (X8 (n + 0) (by omega) _ a.fCodes b.fCodes (by omega)) ?_
   refine Cb h21 (Er q21 h21) ?_
   exact rfl
  ·refine Ao h21 ?_
   refine Ao h21 ?_
   refine Ao h21 ?_
   refine Ao h21 ?_
   refine Ao h21 ?_
   refine Ca h21 (Ep q21 h21) ?_
   exact rfl
 intro b21 q21
 apply Bc (b8 && b15)
 ·intro b22 q22
  refine Ac (b8) (fun h22 => ?_) (fun h22 => ?_)
  ·refine Ap h22 ?_
   refine Cb h22 (Er q22 h22) ?_
   exact rfl
  ·refine Ao h22 ?_
   refine Ca h22 (Ep q22 h22) ?_
   exact rfl
 intro b22 q22
 apply Bc (b22 && b19)
 ·intro b23 q23
  refine Ac (b22) (fun h23 => ?_) (fun h23 => ?_)
  ·refine Ap h23 ?_
   refine Cb h23 (Er q23 h23) ?_
   exact rfl
  ·refine Ao h23 ?_
   refine Ca h23 (Ep q23 h23) ?_
   exact rfl
 intro b23 q23
 apply Bc (b23 && b21)
 ·intro b24 q24
  refine Ac (b23) (fun h24 => ?_) (fun h24 => ?_)
  ·refine Ap h24 ?_
   refine Cb h24 (Er q24 h24) ?_
   exact rfl
  ·refine Ao h24 ?_
   refine Ca h24 (Ep q24 h24) ?_
   exact rfl
 intro b24 q24
 apply Bc (b24 && (a.fCode == b.fCode))
 ·intro b25 q25
  refine Ac (b24) (fun h25 => ?_) (fun h25 => ?_)
  ·refine Ap h25 ?_
   refine At ?_
   refine Ap h25 ?_
   refine Bx (c := .sc (.int .i64 a.fCode)) B1 (Bs rfl) rfl ?_
   refine Ap h25 ?_
   refine At ?_
   refine Ap h25 ?_
   refine Bx (c := .sc (.int .i64 b.fCode)) B2 (Bs rfl) rfl ?_
   refine Ap h25 ?_
   refine B9 (v := .sc (.bool (a.fCode == b.fCode))) (fun k => rfl) ?_
   refine Cb h25 (Er q25 h25) ?_
   exact rfl
  ·refine Ao h25 ?_
   refine Ao h25 ?_
   refine Ao h25 ?_
   refine Ao h25 ?_
   refine Ao h25 ?_
   refine Ca h25 (Ep q25 h25) ?_
   exact rfl
 intro b25 q25
 apply Bc (b25 && (a.fPresent == b.fPresent))
 ·intro b26 q26
  refine Ac (b25) (fun h26 => ?_) (fun h26 => ?_)
  ·refine Ap h26 ?_
   refine At ?_
   refine Ap h26 ?_
   refine Bx (c := .sc (.bool a.fPresent)) B1 (Bs rfl) rfl ?_
   refine Ap h26 ?_
   refine At ?_
   refine Ap h26 ?_
   refine Bx (c := .sc (.bool b.fPresent)) B2 (Bs rfl) rfl ?_
   refine Ap h26 ?_
   refine Fq (v := .sc (.bool (a.fPresent == b.fPresent))) (fun k => rfl) ?_
   refine Cb h26 (Er q26 h26) ?_
   exact rfl
  ·refine Ao h26 ?_
   refine Ao h26 ?_
   refine Ao h26 ?_
   refine Ao h26 ?_
   refine Ao h26 ?_
   refine Ca h26 (Ep q26 h26) ?_
   exact rfl
 intro b26 q26
 exact Iw (by subst_vars; simp only [A3, Jk, Ez]; ac_rfl)
end
end Go.Proofs.YtjiahcekpohehaaGreatDoor.Abs
set_option maxHeartbeats 3200000
namespace Go.Proofs.YtjiahcekpohehaaGreatDoor.Abs
section
open Go
def Dn (t : Int) : Ar := ⟨t, false, 0, false, 0, ⟨#[]⟩, ⟨#[]⟩, ⟨#[]⟩, 0, false, 0, false, ⟨#[]⟩, ⟨#[]⟩, 0, false, false, ⟨#[]⟩, false, ⟨#[]⟩, 0, false, [], [], []⟩
def Ct (p q : Ar) : Ar := if p.fHasWill then { q with fHasWill := true, fWTopic := p.fWTopic, fWBody := p.fWBody, fWQos := p.fWQos, fWRetain := p.fWRetain } else q
def Cs (p q : Ar) : Ar := if p.fHasUser then (if p.fHasPass then { q with fHasUser := true, fUser := p.fUser, fHasPass := true, fPass := p.fPass } else { q with fHasUser := true, fUser := p.fUser }) else q
def Aq (pc : Bool) (p : Ar) : Ar :=
 if p.fType = 1 then Cs p (Ct p { Dn p.fType with fClient := p.fClient, fLevel := p.fLevel, fClean := p.fClean, fKeep := p.fKeep })
 else if p.fType = 2 then { Dn p.fType with fCode := p.fCode, fPresent := p.fPresent && (!pc || decide (p.fCode = 0)) }
 else if p.fType = 3 then (if 0 < p.fQos then { Dn p.fType with fQos := p.fQos, fRetain := p.fRetain, fTopic := p.fTopic, fBody := p.fBody, fDup := p.fDup, fId := p.fId } else { Dn p.fType with fQos := p.fQos, fRetain := p.fRetain, fTopic := p.fTopic, fBody := p.fBody })
 else if p.fType = 4 ∨ p.fType = 5 ∨ p.fType = 6 ∨ p.fType = 7 ∨ p.fType = 11 then { Dn p.fType with fId := p.fId }
 else if p.fType = 8 then { Dn p.fType with fId := p.fId, fWants := p.fWants }
 else if p.fType = 9 then { Dn p.fType with fId := p.fId, fCodes := p.fCodes }
 else if p.fType = 10 then { Dn p.fType with fId := p.fId, fNames := p.fNames }
 else Dn p.fType
theorem Pw (n : Nat) (hn : 1048576 < n) (p : Ar) {β : Type} {G : Option β → Prop} {KH : KO β} {H : Af} {L : List Ck} (s0 : Sep H (L)) (hk : ∀ raw H', (∀ L', VwL L' 7 raw (A6 (Aq false p))) → Sep H' L → Gd G (KH (.agg raw) H')) : Gd G (Ds E0 (n + 1) β 195 [.agg (A6 p)] H fun x H => KH x H) := by
 rw [Adg, f195]
 try simp only [Cl, Dm, A8, Az, Cw, A2, Ay, Dp, Aar, Ac0]
 refine Hz s0 (Dr (B4 _)) fun i1 H s2 => ?_
 refine Pu s2 fun i3 H s4 => ?_
 refine Ad (o' := 0) rfl ?_
 refine Al (c := .sc (.int .i64 p.fType)) s4 Id rfl ?_
 refine Jx (cs := [.sc (.int .i64 p.fType), .sc (.bool false), .sc (.int .i64 0), .sc (.bool false), .sc (.int .i64 0), .sc (.string (⟨#[]⟩)), .nl, .sc (.string (⟨#[]⟩)), .sc (.int .i64 0), .sc (.bool false), .sc (.int .i64 0), .sc (.bool false), .sc (.string (⟨#[]⟩)), .nl, .sc (.int .i64 0), .sc (.bool false), .sc (.bool false), .sc (.string (⟨#[]⟩)), .sc (.bool false), .nl, .sc (.int .i64 0), .sc (.bool false), .nl, .nl, .nl]) rfl ?_
 refine Pu s4 fun i5 H s6 => ?_
 refine B0 (cs' := [.sc (.int .i64 p.fType), .sc (.bool false), .sc (.int .i64 0), .sc (.bool false), .sc (.int .i64 0), .sc (.string (⟨#[]⟩)), .nl, .sc (.string (⟨#[]⟩)), .sc (.int .i64 0), .sc (.bool false), .sc (.int .i64 0), .sc (.bool false), .sc (.string (⟨#[]⟩)), .nl, .sc (.int .i64 0), .sc (.bool false), .sc (.bool false), .sc (.string (⟨#[]⟩)), .sc (.bool false), .nl, .sc (.int .i64 0), .sc (.bool false), .nl, .nl, .nl]) s6 (.here) (Bl (Ab rfl (Ab rfl (Ab rfl (Ab rfl (Ab rfl (Ab rfl (Ab rfl (Ab rfl (Ab rfl (Ab rfl (Ab rfl (Ab rfl (Ab rfl (Ab rfl (Ab rfl (Ab rfl (Ab rfl (Ab rfl (Ab rfl (Ab rfl (Ab rfl (Ab rfl (Ab rfl (Ab rfl (Ab rfl rfl)))))))))))))))))))))))))) rfl (Bs rfl) rfl fun H s7 => ?_
 refine Ad (o' := 0) rfl ?_
 refine Al (c := .sc (.int .i64 p.fType)) s7 D6 rfl ?_
 refine Au ?_
 refine Ac ((decide (p.fType = 1))) (fun h8 => ?_) (fun h8 => ?_)
 ·refine A0 h8 ?_
  refine Ad (o' := 7) rfl ?_
  refine Al (c := .sc (.string p.fClient)) s7 D6 rfl ?_
  refine Ad (o' := 8) rfl ?_
  refine Ad (o' := 9) rfl ?_
  refine Ad (o' := 10) rfl ?_
  refine Ad (o' := 11) rfl ?_
  refine Ad (o' := 16) rfl ?_
  refine Ad (o' := 7) rfl ?_
  refine Ea s7 D6 (fun y hy => (List.mem_cons.1 hy).elim (fun e => ⟨_, _, _, _, e, _, (.here)⟩) ((fun y hy => absurd hy (by simp)) y)) ?_
  refine Al (c := .sc (.int .i64 p.fLevel)) s7 D6 rfl ?_
  refine Ea s7 D6 (fun y hy => (List.mem_cons.1 hy).elim (fun e => ⟨_, _, _, _, e, _, (.here)⟩) ((fun y hy => absurd hy (by simp)) y)) ?_
  refine Al (c := .sc (.bool p.fClean)) s7 D6 rfl ?_
  refine Ea s7 D6 (fun y hy => (List.mem_cons.1 hy).elim (fun e => ⟨_, _, _, _, e, _, (.here)⟩) ((fun y hy => absurd hy (by simp)) y)) ?_
  refine Al (c := .sc (.int .i64 p.fKeep)) s7 D6 rfl ?_
  refine Ea s7 D6 (fun y hy => (List.mem_cons.1 hy).elim (fun e => ⟨_, _, _, _, e, _, (.here)⟩) ((fun y hy => absurd hy (by simp)) y)) ?_
  refine Al (c := .sc (.bool p.fHasWill)) s7 D6 rfl ?_
  refine Ea s7 D6 (fun y hy => (List.mem_cons.1 hy).elim (fun e => ⟨_, _, _, _, e, _, (.here)⟩) ((fun y hy => absurd hy (by simp)) y)) ?_
  refine Al (c := .sc (.bool p.fHasUser)) s7 D6 rfl ?_
  refine E3 ?_
  refine B0 (cs' := [.sc (.int .i64 p.fType), .sc (.bool false), .sc (.int .i64 0), .sc (.bool false), .sc (.int .i64 0), .sc (.string (⟨#[]⟩)), .nl, .sc (.string p.fClient), .sc (.int .i64 0), .sc (.bool false), .sc (.int .i64 0), .sc (.bool false), .sc (.string (⟨#[]⟩)), .nl, .sc (.int .i64 0), .sc (.bool false), .sc (.bool false), .sc (.string (⟨#[]⟩)), .sc (.bool false), .nl, .sc (.int .i64 0), .sc (.bool false), .nl, .nl, .nl]) s7 (.here) (Am rfl) rfl (Bs rfl) rfl fun H s9 => ?_
  refine Ad (o' := 8) rfl ?_
  refine E3 ?_
  refine B0 (cs' := [.sc (.int .i64 p.fType), .sc (.bool false), .sc (.int .i64 0), .sc (.bool false), .sc (.int .i64 0), .sc (.string (⟨#[]⟩)), .nl, .sc (.string p.fClient), .sc (.int .i64 p.fLevel), .sc (.bool false), .sc (.int .i64 0), .sc (.bool false), .sc (.string (⟨#[]⟩)), .nl, .sc (.int .i64 0), .sc (.bool false), .sc (.bool false), .sc (.string (⟨#[]⟩)), .sc (.bool false), .nl, .sc (.int .i64 0), .sc (.bool false), .nl, .nl, .nl]) s9 (.here) (Am rfl) rfl (Bs rfl) rfl fun H s10 => ?_
  refine Ad (o' := 9) rfl ?_
  refine E3 ?_
  refine B0 (cs' := [.sc (.int .i64 p.fType), .sc (.bool false), .sc (.int .i64 0), .sc (.bool false), .sc (.int .i64 0), .sc (.string (⟨#[]⟩)), .nl, .sc (.string p.fClient), .sc (.int .i64 p.fLevel), .sc (.bool p.fClean), .sc (.int .i64 0), .sc (.bool false), .sc (.string (⟨#[]⟩)), .nl, .sc (.int .i64 0), .sc (.bool false), .sc (.bool false), .sc (.string (⟨#[]⟩)), .sc (.bool false), .nl, .sc (.int .i64 0), .sc (.bool false), .nl, .nl, .nl]) s10 (.here) (Am rfl) rfl (Bs rfl) rfl fun H s11 => ?_
  refine Ad (o' := 10) rfl ?_
  refine E3 ?_
  refine B0 (cs' := [.sc (.int .i64 p.fType), .sc (.bool false), .sc (.int .i64 0), .sc (.bool false), .sc (.int .i64 0), .sc (.string (⟨#[]⟩)), .nl, .sc (.string p.fClient), .sc (.int .i64 p.fLevel), .sc (.bool p.fClean), .sc (.int .i64 p.fKeep), .sc (.bool false), .sc (.string (⟨#[]⟩)), .nl, .sc (.int .i64 0), .sc (.bool false), .sc (.bool false), .sc (.string (⟨#[]⟩)), .sc (.bool false), .nl, .sc (.int .i64 0), .sc (.bool false), .nl, .nl, .nl]) s11 (.here) (Am rfl) rfl (Bs rfl) rfl fun H s12 => ?_
  refine Ad (o' := 11) rfl ?_
  refine E3 ?_
  refine B0 (cs' := [.sc (.int .i64 p.fType), .sc (.bool false), .sc (.int .i64 0), .sc (.bool false), .sc (.int .i64 0), .sc (.string (⟨#[]⟩)), .nl, .sc (.string p.fClient), .sc (.int .i64 p.fLevel), .sc (.bool p.fClean), .sc (.int .i64 p.fKeep), .sc (.bool p.fHasWill), .sc (.string (⟨#[]⟩)), .nl, .sc (.int .i64 0), .sc (.bool false), .sc (.bool false), .sc (.string (⟨#[]⟩)), .sc (.bool false), .nl, .sc (.int .i64 0), .sc (.bool false), .nl, .nl, .nl]) s12 (.here) (Am rfl) rfl (Bs rfl) rfl fun H s13 => ?_
  refine Ad (o' := 16) rfl ?_
  refine B0 (cs' := [.sc (.int .i64 p.fType), .sc (.bool false), .sc (.int .i64 0), .sc (.bool false), .sc (.int .i64 0), .sc (.string (⟨#[]⟩)), .nl, .sc (.string p.fClient), .sc (.int .i64 p.fLevel), .sc (.bool p.fClean), .sc (.int .i64 p.fKeep), .sc (.bool p.fHasWill), .sc (.string (⟨#[]⟩)), .nl, .sc (.int .i64 0), .sc (.bool false), .sc (.bool p.fHasUser), .sc (.string (⟨#[]⟩)), .sc (.bool false), .nl, .sc (.int .i64 0), .sc (.bool false), .nl, .nl, .nl]) s13 (.here) (Am rfl) rfl (Bs rfl) rfl fun H s14 => ?_
  refine Ad (o' := 11) rfl ?_
  refine Al (c := .sc (.bool p.fHasWill)) s14 D6 rfl ?_
  refine Fm ?_
  refine Ac (p.fHasWill) (fun h15 => ?_) (fun h15 => ?_)
  ·refine A0 h15 ?_
   refine Ad (o' := 12) rfl ?_
   refine Al (c := .sc (.string p.fWTopic)) s14 D6 rfl ?_
   refine Ad (o' := 13) rfl ?_
   refine Ad (o' := 14) rfl ?_
   refine Ad (o' := 15) rfl ?_
   refine Ad (o' := 12) rfl ?_
   refine Ea s14 D6 (fun y hy => (List.mem_cons.1 hy).elim (fun e => ⟨_, _, _, _, e, _, (.here)⟩) ((fun y hy => absurd hy (by simp)) y)) ?_
   refine Al (c := Ax p.fWBody) s14 D6 rfl ?_
   refine Ea s14 D6 (fun y hy => (List.mem_cons.1 hy).elim (fun e => ⟨_, _, _, _, e, _, (.here)⟩) ((fun y hy => absurd hy (by simp)) y)) ?_
   refine Al (c := .sc (.int .i64 p.fWQos)) s14 D6 rfl ?_
   refine Ea s14 D6 (fun y hy => (List.mem_cons.1 hy).elim (fun e => ⟨_, _, _, _, e, _, (.here)⟩) ((fun y hy => absurd hy (by simp)) y)) ?_
   refine Al (c := .sc (.bool p.fWRetain)) s14 D6 rfl ?_
   refine E3 ?_
   refine B0 (cs' := [.sc (.int .i64 p.fType), .sc (.bool false), .sc (.int .i64 0), .sc (.bool false), .sc (.int .i64 0), .sc (.string (⟨#[]⟩)), .nl, .sc (.string p.fClient), .sc (.int .i64 p.fLevel), .sc (.bool p.fClean), .sc (.int .i64 p.fKeep), .sc (.bool p.fHasWill), .sc (.string p.fWTopic), .nl, .sc (.int .i64 0), .sc (.bool false), .sc (.bool p.fHasUser), .sc (.string (⟨#[]⟩)), .sc (.bool false), .nl, .sc (.int .i64 0), .sc (.bool false), .nl, .nl, .nl]) s14 (.here) (Am rfl) rfl (Bs rfl) rfl fun H s16 => ?_
   refine Ad (o' := 13) rfl ?_
   refine E3 ?_
   refine B0 (cs' := [.sc (.int .i64 p.fType), .sc (.bool false), .sc (.int .i64 0), .sc (.bool false), .sc (.int .i64 0), .sc (.string (⟨#[]⟩)), .nl, .sc (.string p.fClient), .sc (.int .i64 p.fLevel), .sc (.bool p.fClean), .sc (.int .i64 p.fKeep), .sc (.bool p.fHasWill), .sc (.string p.fWTopic), Ax p.fWBody, .sc (.int .i64 0), .sc (.bool false), .sc (.bool p.fHasUser), .sc (.string (⟨#[]⟩)), .sc (.bool false), .nl, .sc (.int .i64 0), .sc (.bool false), .nl, .nl, .nl]) s16 (.here) (Am rfl) rfl (Bs rfl) rfl fun H s17 => ?_
   refine Ad (o' := 14) rfl ?_
   refine E3 ?_
   refine B0 (cs' := [.sc (.int .i64 p.fType), .sc (.bool false), .sc (.int .i64 0), .sc (.bool false), .sc (.int .i64 0), .sc (.string (⟨#[]⟩)), .nl, .sc (.string p.fClient), .sc (.int .i64 p.fLevel), .sc (.bool p.fClean), .sc (.int .i64 p.fKeep), .sc (.bool p.fHasWill), .sc (.string p.fWTopic), Ax p.fWBody, .sc (.int .i64 p.fWQos), .sc (.bool false), .sc (.bool p.fHasUser), .sc (.string (⟨#[]⟩)), .sc (.bool false), .nl, .sc (.int .i64 0), .sc (.bool false), .nl, .nl, .nl]) s17 (.here) (Am rfl) rfl (Bs rfl) rfl fun H s18 => ?_
   refine Ad (o' := 15) rfl ?_
   refine B0 (cs' := [.sc (.int .i64 p.fType), .sc (.bool false), .sc (.int .i64 0), .sc (.bool false), .sc (.int .i64 0), .sc (.string (⟨#[]⟩)), .nl, .sc (.string p.fClient), .sc (.int .i64 p.fLevel), .sc (.bool p.fClean), .sc (.int .i64 p.fKeep), .sc (.bool p.fHasWill), .sc (.string p.fWTopic), Ax p.fWBody, .sc (.int .i64 p.fWQos), .sc (.bool p.fWRetain), .sc (.bool p.fHasUser), .sc (.string (⟨#[]⟩)), .sc (.bool false), .nl, .sc (.int .i64 0), .sc (.bool false), .nl, .nl, .nl]) s18 (.here) (Am rfl) rfl (Bs rfl) rfl fun H s19 => ?_
   refine Ad (o' := 16) rfl ?_
   refine Al (c := .sc (.bool p.fHasUser)) s19 D6 rfl ?_
   refine Fm ?_
   refine Ac (p.fHasUser) (fun h20 => ?_) (fun h20 => ?_)
   ·refine A0 h20 ?_
    refine Ad (o' := 17) rfl ?_
    refine Al (c := .sc (.string p.fUser)) s19 D6 rfl ?_
    refine Ad (o' := 18) rfl ?_
    refine Ad (o' := 17) rfl ?_
    refine Ea s19 D6 (fun y hy => (List.mem_cons.1 hy).elim (fun e => ⟨_, _, _, _, e, _, (.here)⟩) ((fun y hy => absurd hy (by simp)) y)) ?_
    refine Al (c := .sc (.bool p.fHasPass)) s19 D6 rfl ?_
    refine E3 ?_
    refine B0 (cs' := [.sc (.int .i64 p.fType), .sc (.bool false), .sc (.int .i64 0), .sc (.bool false), .sc (.int .i64 0), .sc (.string (⟨#[]⟩)), .nl, .sc (.string p.fClient), .sc (.int .i64 p.fLevel), .sc (.bool p.fClean), .sc (.int .i64 p.fKeep), .sc (.bool p.fHasWill), .sc (.string p.fWTopic), Ax p.fWBody, .sc (.int .i64 p.fWQos), .sc (.bool p.fWRetain), .sc (.bool p.fHasUser), .sc (.string p.fUser), .sc (.bool false), .nl, .sc (.int .i64 0), .sc (.bool false), .nl, .nl, .nl]) s19 (.here) (Am rfl) rfl (Bs rfl) rfl fun H s21 => ?_
    refine Ad (o' := 18) rfl ?_
    refine B0 (cs' := [.sc (.int .i64 p.fType), .sc (.bool false), .sc (.int .i64 0), .sc (.bool false), .sc (.int .i64 0), .sc (.string (⟨#[]⟩)), .nl, .sc (.string p.fClient), .sc (.int .i64 p.fLevel), .sc (.bool p.fClean), .sc (.int .i64 p.fKeep), .sc (.bool p.fHasWill), .sc (.string p.fWTopic), Ax p.fWBody, .sc (.int .i64 p.fWQos), .sc (.bool p.fWRetain), .sc (.bool p.fHasUser), .sc (.string p.fUser), .sc (.bool p.fHasPass), .nl, .sc (.int .i64 0), .sc (.bool false), .nl, .nl, .nl]) s21 (.here) (Am rfl) rfl (Bs rfl) rfl fun H s22 => ?_
    refine Ad (o' := 18) rfl ?_
    refine Al (c := .sc (.bool p.fHasPass)) s22 (.here) rfl ?_
    refine Ac (p.fHasPass) (fun h23 => ?_) (fun h23 => ?_)
    ·refine A0 h23 ?_
     refine Ad (o' := 19) rfl ?_
     refine Al (c := Ax p.fPass) s22 D6 rfl ?_
     refine Ad (o' := 19) rfl ?_
     refine B0 (cs' := [.sc (.int .i64 p.fType), .sc (.bool false), .sc (.int .i64 0), .sc (.bool false), .sc (.int .i64 0), .sc (.string (⟨#[]⟩)), .nl, .sc (.string p.fClient), .sc (.int .i64 p.fLevel), .sc (.bool p.fClean), .sc (.int .i64 p.fKeep), .sc (.bool p.fHasWill), .sc (.string p.fWTopic), Ax p.fWBody, .sc (.int .i64 p.fWQos), .sc (.bool p.fWRetain), .sc (.bool p.fHasUser), .sc (.string p.fUser), .sc (.bool p.fHasPass), Ax p.fPass, .sc (.int .i64 0), .sc (.bool false), .nl, .nl, .nl]) s22 (.here) (Am rfl) rfl (Bs rfl) rfl fun H s24 => ?_
     refine Bo s24 (.here) rfl ?_
     refine B0 (cs' := [.sc (.int .i64 p.fType), .sc (.bool false), .sc (.int .i64 0), .sc (.bool false), .sc (.int .i64 0), .sc (.string (⟨#[]⟩)), .nl, .sc (.string p.fClient), .sc (.int .i64 p.fLevel), .sc (.bool p.fClean), .sc (.int .i64 p.fKeep), .sc (.bool p.fHasWill), .sc (.string p.fWTopic), Ax p.fWBody, .sc (.int .i64 p.fWQos), .sc (.bool p.fWRetain), .sc (.bool p.fHasUser), .sc (.string p.fUser), .sc (.bool p.fHasPass), Ax p.fPass, .sc (.int .i64 0), .sc (.bool false), .nl, .nl, .nl]) s24 Id (Bl (Ab rfl (Ab rfl (Ab rfl (Ab rfl (Ab rfl (Ab rfl (Ab rfl (Ab rfl (Ab rfl (Ab rfl (Ab rfl (Ab rfl (Ab rfl (Ab rfl (Ab rfl (Ab rfl (Ab rfl (Ab rfl (Ab rfl (Ab rfl (Ab rfl (Ab rfl (Ab rfl (Ab rfl (Ab rfl rfl)))))))))))))))))))))))))) rfl (Bs rfl) rfl fun H s25 => ?_
     refine Bo s25 (.here) rfl ?_
     have e : Aq false p = (⟨p.fType, false, 0, false, 0, ⟨#[]⟩, ⟨#[]⟩, p.fClient, p.fLevel, p.fClean, p.fKeep, p.fHasWill, p.fWTopic, p.fWBody, p.fWQos, p.fWRetain, p.fHasUser, p.fUser, p.fHasPass, p.fPass, 0, false, [], [], []⟩ : Ar) := by
      clear hk s0 s2 s4 s6 s7 s9 s10 s11 s12 s13 s14 s16 s17 s18 s19 s21 s22 s24 s25
      simp only [decide_eq_true_eq, decide_eq_false_iff_not] at h8 h15 h20 h23
      simp [Aq, Ct, Cs, Dn, h8, h15, h20, h23]
     rw [e] at hk
     exact hk _ _ (fun L' => (.cons .sc (.cons .sc (.cons .sc (.cons .sc (.cons .sc (.cons .sc (.cons .nl (.cons .sc (.cons .sc (.cons .sc (.cons .sc (.cons .sc (.cons .sc (.cons .ro (.cons .sc (.cons .sc (.cons .sc (.cons .sc (.cons .sc (.cons .ro (.cons .sc (.cons .sc (.cons .nl (.cons .nl (.cons .nl .nil)))))))))))))))))))))))))) s25.tail.tail.tail
    ·refine Bf h23 ?_
     refine Bo s22 (.here) rfl ?_
     refine B0 (cs' := [.sc (.int .i64 p.fType), .sc (.bool false), .sc (.int .i64 0), .sc (.bool false), .sc (.int .i64 0), .sc (.string (⟨#[]⟩)), .nl, .sc (.string p.fClient), .sc (.int .i64 p.fLevel), .sc (.bool p.fClean), .sc (.int .i64 p.fKeep), .sc (.bool p.fHasWill), .sc (.string p.fWTopic), Ax p.fWBody, .sc (.int .i64 p.fWQos), .sc (.bool p.fWRetain), .sc (.bool p.fHasUser), .sc (.string p.fUser), .sc (.bool p.fHasPass), .nl, .sc (.int .i64 0), .sc (.bool false), .nl, .nl, .nl]) s22 Id (Bl (Ab rfl (Ab rfl (Ab rfl (Ab rfl (Ab rfl (Ab rfl (Ab rfl (Ab rfl (Ab rfl (Ab rfl (Ab rfl (Ab rfl (Ab rfl (Ab rfl (Ab rfl (Ab rfl (Ab rfl (Ab rfl (Ab rfl (Ab rfl (Ab rfl (Ab rfl (Ab rfl (Ab rfl (Ab rfl rfl)))))))))))))))))))))))))) rfl (Bs rfl) rfl fun H s26 => ?_
     refine Bo s26 (.here) rfl ?_
     have e : Aq false p = (⟨p.fType, false, 0, false, 0, ⟨#[]⟩, ⟨#[]⟩, p.fClient, p.fLevel, p.fClean, p.fKeep, p.fHasWill, p.fWTopic, p.fWBody, p.fWQos, p.fWRetain, p.fHasUser, p.fUser, p.fHasPass, ⟨#[]⟩, 0, false, [], [], []⟩ : Ar) := by
      clear hk s0 s2 s4 s6 s7 s9 s10 s11 s12 s13 s14 s16 s17 s18 s19 s21 s22 s26
      simp only [decide_eq_true_eq, decide_eq_false_iff_not] at h8 h15 h20 h23
      simp [Aq, Ct, Cs, Dn, h8, h15, h20, h23]
     rw [e] at hk
     exact hk _ _ (fun L' => (.cons .sc (.cons .sc (.cons .sc (.cons .sc (.cons .sc (.cons .sc (.cons .nl (.cons .sc (.cons .sc (.cons .sc (.cons .sc (.cons .sc (.cons .sc (.cons .ro (.cons .sc (.cons .sc (.cons .sc (.cons .sc (.cons .sc (.cons .nl (.cons .sc (.cons .sc (.cons .nl (.cons .nl (.cons .nl .nil)))))))))))))))))))))))))) s26.tail.tail.tail
   ·refine Bf h20 ?_
    refine Ad (o' := 18) rfl ?_
    refine Al (c := .sc (.bool false)) s19 (.here) rfl ?_
    refine Bf rfl ?_
    refine Bo s19 (.here) rfl ?_
    refine B0 (cs' := [.sc (.int .i64 p.fType), .sc (.bool false), .sc (.int .i64 0), .sc (.bool false), .sc (.int .i64 0), .sc (.string (⟨#[]⟩)), .nl, .sc (.string p.fClient), .sc (.int .i64 p.fLevel), .sc (.bool p.fClean), .sc (.int .i64 p.fKeep), .sc (.bool p.fHasWill), .sc (.string p.fWTopic), Ax p.fWBody, .sc (.int .i64 p.fWQos), .sc (.bool p.fWRetain), .sc (.bool p.fHasUser), .sc (.string (⟨#[]⟩)), .sc (.bool false), .nl, .sc (.int .i64 0), .sc (.bool false), .nl, .nl, .nl]) s19 Id (Bl (Ab rfl (Ab rfl (Ab rfl (Ab rfl (Ab rfl (Ab rfl (Ab rfl (Ab rfl (Ab rfl (Ab rfl (Ab rfl (Ab rfl (Ab rfl (Ab rfl (Ab rfl (Ab rfl (Ab rfl (Ab rfl (Ab rfl (Ab rfl (Ab rfl (Ab rfl (Ab rfl (Ab rfl (Ab rfl rfl)))))))))))))))))))))))))) rfl (Bs rfl) rfl fun H s27 => ?_
    refine Bo s27 (.here) rfl ?_
    have e : Aq false p = (⟨p.fType, false, 0, false, 0, ⟨#[]⟩, ⟨#[]⟩, p.fClient, p.fLevel, p.fClean, p.fKeep, p.fHasWill, p.fWTopic, p.fWBody, p.fWQos, p.fWRetain, p.fHasUser, ⟨#[]⟩, false, ⟨#[]⟩, 0, false, [], [], []⟩ : Ar) := by
     clear hk s0 s2 s4 s6 s7 s9 s10 s11 s12 s13 s14 s16 s17 s18 s19 s27
     simp only [decide_eq_true_eq, decide_eq_false_iff_not] at h8 h15 h20
     simp [Aq, Ct, Cs, Dn, h8, h15, h20]
    rw [e] at hk
    exact hk _ _ (fun L' => (.cons .sc (.cons .sc (.cons .sc (.cons .sc (.cons .sc (.cons .sc (.cons .nl (.cons .sc (.cons .sc (.cons .sc (.cons .sc (.cons .sc (.cons .sc (.cons .ro (.cons .sc (.cons .sc (.cons .sc (.cons .sc (.cons .sc (.cons .nl (.cons .sc (.cons .sc (.cons .nl (.cons .nl (.cons .nl .nil)))))))))))))))))))))))))) s27.tail.tail.tail
  ·refine Bf h15 ?_
   refine Ad (o' := 16) rfl ?_
   refine Al (c := .sc (.bool p.fHasUser)) s14 D6 rfl ?_
   refine Fm ?_
   refine Ac (p.fHasUser) (fun h28 => ?_) (fun h28 => ?_)
   ·refine A0 h28 ?_
    refine Ad (o' := 17) rfl ?_
    refine Al (c := .sc (.string p.fUser)) s14 D6 rfl ?_
    refine Ad (o' := 18) rfl ?_
    refine Ad (o' := 17) rfl ?_
    refine Ea s14 D6 (fun y hy => (List.mem_cons.1 hy).elim (fun e => ⟨_, _, _, _, e, _, (.here)⟩) ((fun y hy => absurd hy (by simp)) y)) ?_
    refine Al (c := .sc (.bool p.fHasPass)) s14 D6 rfl ?_
    refine E3 ?_
    refine B0 (cs' := [.sc (.int .i64 p.fType), .sc (.bool false), .sc (.int .i64 0), .sc (.bool false), .sc (.int .i64 0), .sc (.string (⟨#[]⟩)), .nl, .sc (.string p.fClient), .sc (.int .i64 p.fLevel), .sc (.bool p.fClean), .sc (.int .i64 p.fKeep), .sc (.bool p.fHasWill), .sc (.string (⟨#[]⟩)), .nl, .sc (.int .i64 0), .sc (.bool false), .sc (.bool p.fHasUser), .sc (.string p.fUser), .sc (.bool false), .nl, .sc (.int .i64 0), .sc (.bool false), .nl, .nl, .nl]) s14 (.here) (Am rfl) rfl (Bs rfl) rfl fun H s29 => ?_
    refine Ad (o' := 18) rfl ?_
    refine B0 (cs' := [.sc (.int .i64 p.fType), .sc (.bool false), .sc (.int .i64 0), .sc (.bool false), .sc (.int .i64 0), .sc (.string (⟨#[]⟩)), .nl, .sc (.string p.fClient), .sc (.int .i64 p.fLevel), .sc (.bool p.fClean), .sc (.int .i64 p.fKeep), .sc (.bool p.fHasWill), .sc (.string (⟨#[]⟩)), .nl, .sc (.int .i64 0), .sc (.bool false), .sc (.bool p.fHasUser), .sc (.string p.fUser), .sc (.bool p.fHasPass), .nl, .sc (.int .i64 0), .sc (.bool false), .nl, .nl, .nl]) s29 (.here) (Am rfl) rfl (Bs rfl) rfl fun H s30 => ?_
    refine Ad (o' := 18) rfl ?_
    refine Al (c := .sc (.bool p.fHasPass)) s30 (.here) rfl ?_
    refine Ac (p.fHasPass) (fun h31 => ?_) (fun h31 => ?_)
    ·refine A0 h31 ?_
     refine Ad (o' := 19) rfl ?_
     refine Al (c := Ax p.fPass) s30 D6 rfl ?_
     refine Ad (o' := 19) rfl ?_
     refine B0 (cs' := [.sc (.int .i64 p.fType), .sc (.bool false), .sc (.int .i64 0), .sc (.bool false), .sc (.int .i64 0), .sc (.string (⟨#[]⟩)), .nl, .sc (.string p.fClient), .sc (.int .i64 p.fLevel), .sc (.bool p.fClean), .sc (.int .i64 p.fKeep), .sc (.bool p.fHasWill), .sc (.string (⟨#[]⟩)), .nl, .sc (.int .i64 0), .sc (.bool false), .sc (.bool p.fHasUser), .sc (.string p.fUser), .sc (.bool p.fHasPass), Ax p.fPass, .sc (.int .i64 0), .sc (.bool false), .nl, .nl, .nl]) s30 (.here) (Am rfl) rfl (Bs rfl) rfl fun H s32 => ?_
     refine Bo s32 (.here) rfl ?_
     refine B0 (cs' := [.sc (.int .i64 p.fType), .sc (.bool false), .sc (.int .i64 0), .sc (.bool false), .sc (.int .i64 0), .sc (.string (⟨#[]⟩)), .nl, .sc (.string p.fClient), .sc (.int .i64 p.fLevel), .sc (.bool p.fClean), .sc (.int .i64 p.fKeep), .sc (.bool p.fHasWill), .sc (.string (⟨#[]⟩)), .nl, .sc (.int .i64 0), .sc (.bool false), .sc (.bool p.fHasUser), .sc (.string p.fUser), .sc (.bool p.fHasPass), Ax p.fPass, .sc (.int .i64 0), .sc (.bool false), .nl, .nl, .nl]) s32 Id (Bl (Ab rfl (Ab rfl (Ab rfl (Ab rfl (Ab rfl (Ab rfl (Ab rfl (Ab rfl (Ab rfl (Ab rfl (Ab rfl (Ab rfl (Ab rfl (Ab rfl (Ab rfl (Ab rfl (Ab rfl (Ab rfl (Ab rfl (Ab rfl (Ab rfl (Ab rfl (Ab rfl (Ab rfl (Ab rfl rfl)))))))))))))))))))))))))) rfl (Bs rfl) rfl fun H s33 => ?_
     refine Bo s33 (.here) rfl ?_
     have e : Aq false p = (⟨p.fType, false, 0, false, 0, ⟨#[]⟩, ⟨#[]⟩, p.fClient, p.fLevel, p.fClean, p.fKeep, p.fHasWill, ⟨#[]⟩, ⟨#[]⟩, 0, false, p.fHasUser, p.fUser, p.fHasPass, p.fPass, 0, false, [], [], []⟩ : Ar) := by
      clear hk s0 s2 s4 s6 s7 s9 s10 s11 s12 s13 s14 s29 s30 s32 s33
      simp only [decide_eq_true_eq, decide_eq_false_iff_not] at h8 h15 h28 h31
      simp [Aq, Ct, Cs, Dn, h8, h15, h28, h31]
     rw [e] at hk
     exact hk _ _ (fun L' => (.cons .sc (.cons .sc (.cons .sc (.cons .sc (.cons .sc (.cons .sc (.cons .nl (.cons .sc (.cons .sc (.cons .sc (.cons .sc (.cons .sc (.cons .sc (.cons .nl (.cons .sc (.cons .sc (.cons .sc (.cons .sc (.cons .sc (.cons .ro (.cons .sc (.cons .sc (.cons .nl (.cons .nl (.cons .nl .nil)))))))))))))))))))))))))) s33.tail.tail.tail
    ·refine Bf h31 ?_
     refine Bo s30 (.here) rfl ?_
     refine B0 (cs' := [.sc (.int .i64 p.fType), .sc (.bool false), .sc (.int .i64 0), .sc (.bool false), .sc (.int .i64 0), .sc (.string (⟨#[]⟩)), .nl, .sc (.string p.fClient), .sc (.int .i64 p.fLevel), .sc (.bool p.fClean), .sc (.int .i64 p.fKeep), .sc (.bool p.fHasWill), .sc (.string (⟨#[]⟩)), .nl, .sc (.int .i64 0), .sc (.bool false), .sc (.bool p.fHasUser), .sc (.string p.fUser), .sc (.bool p.fHasPass), .nl, .sc (.int .i64 0), .sc (.bool false), .nl, .nl, .nl]) s30 Id (Bl (Ab rfl (Ab rfl (Ab rfl (Ab rfl (Ab rfl (Ab rfl (Ab rfl (Ab rfl (Ab rfl (Ab rfl (Ab rfl (Ab rfl (Ab rfl (Ab rfl (Ab rfl (Ab rfl (Ab rfl (Ab rfl (Ab rfl (Ab rfl (Ab rfl (Ab rfl (Ab rfl (Ab rfl (Ab rfl rfl)))))))))))))))))))))))))) rfl (Bs rfl) rfl fun H s34 => ?_
     refine Bo s34 (.here) rfl ?_
     have e : Aq false p = (⟨p.fType, false, 0, false, 0, ⟨#[]⟩, ⟨#[]⟩, p.fClient, p.fLevel, p.fClean, p.fKeep, p.fHasWill, ⟨#[]⟩, ⟨#[]⟩, 0, false, p.fHasUser, p.fUser, p.fHasPass, ⟨#[]⟩, 0, false, [], [], []⟩ : Ar) := by
      clear hk s0 s2 s4 s6 s7 s9 s10 s11 s12 s13 s14 s29 s30 s34
      simp only [decide_eq_true_eq, decide_eq_false_iff_not] at h8 h15 h28 h31
      simp [Aq, Ct, Cs, Dn, h8, h15, h28, h31]
     rw [e] at hk
     exact hk _ _ (fun L' => (.cons .sc (.cons .sc (.cons .sc (.cons .sc (.cons .sc (.cons .sc (.cons .nl (.cons .sc (.cons .sc (.cons .sc (.cons .sc (.cons .sc (.cons .sc (.cons .nl (.cons .sc (.cons .sc (.cons .sc (.cons .sc (.cons .sc (.cons .nl (.cons .sc (.cons .sc (.cons .nl (.cons .nl (.cons .nl .nil)))))))))))))))))))))))))) s34.tail.tail.tail
   ·refine Bf h28 ?_
    refine Ad (o' := 18) rfl ?_
    refine Al (c := .sc (.bool false)) s14 (.here) rfl ?_
    refine Bf rfl ?_
    refine Bo s14 (.here) rfl ?_
    refine B0 (cs' := [.sc (.int .i64 p.fType), .sc (.bool false), .sc (.int .i64 0), .sc (.bool false), .sc (.int .i64 0), .sc (.string (⟨#[]⟩)), .nl, .sc (.string p.fClient), .sc (.int .i64 p.fLevel), .sc (.bool p.fClean), .sc (.int .i64 p.fKeep), .sc (.bool p.fHasWill), .sc (.string (⟨#[]⟩)), .nl, .sc (.int .i64 0), .sc (.bool false), .sc (.bool p.fHasUser), .sc (.string (⟨#[]⟩)), .sc (.bool false), .nl, .sc (.int .i64 0), .sc (.bool false), .nl, .nl, .nl]) s14 Id (Bl (Ab rfl (Ab rfl (Ab rfl (Ab rfl (Ab rfl (Ab rfl (Ab rfl (Ab rfl (Ab rfl (Ab rfl (Ab rfl (Ab rfl (Ab rfl (Ab rfl (Ab rfl (Ab rfl (Ab rfl (Ab rfl (Ab rfl (Ab rfl (Ab rfl (Ab rfl (Ab rfl (Ab rfl (Ab rfl rfl)))))))))))))))))))))))))) rfl (Bs rfl) rfl fun H s35 => ?_
    refine Bo s35 (.here) rfl ?_
    have e : Aq false p = (⟨p.fType, false, 0, false, 0, ⟨#[]⟩, ⟨#[]⟩, p.fClient, p.fLevel, p.fClean, p.fKeep, p.fHasWill, ⟨#[]⟩, ⟨#[]⟩, 0, false, p.fHasUser, ⟨#[]⟩, false, ⟨#[]⟩, 0, false, [], [], []⟩ : Ar) := by
     clear hk s0 s2 s4 s6 s7 s9 s10 s11 s12 s13 s14 s35
     simp only [decide_eq_true_eq, decide_eq_false_iff_not] at h8 h15 h28
     simp [Aq, Ct, Cs, Dn, h8, h15, h28]
    rw [e] at hk
    exact hk _ _ (fun L' => (.cons .sc (.cons .sc (.cons .sc (.cons .sc (.cons .sc (.cons .sc (.cons .nl (.cons .sc (.cons .sc (.cons .sc (.cons .sc (.cons .sc (.cons .sc (.cons .nl (.cons .sc (.cons .sc (.cons .sc (.cons .sc (.cons .sc (.cons .nl (.cons .sc (.cons .sc (.cons .nl (.cons .nl (.cons .nl .nil)))))))))))))))))))))))))) s35.tail.tail.tail
 ·refine Bf h8 ?_
  refine Au ?_
  refine Ac ((decide (p.fType = 2))) (fun h36 => ?_) (fun h36 => ?_)
  ·refine A0 h36 ?_
   refine Ad (o' := 20) rfl ?_
   refine Al (c := .sc (.int .i64 p.fCode)) s7 D6 rfl ?_
   refine Ad (o' := 21) rfl ?_
   refine Ad (o' := 20) rfl ?_
   refine Ea s7 D6 (fun y hy => (List.mem_cons.1 hy).elim (fun e => ⟨_, _, _, _, e, _, (.here)⟩) ((fun y hy => absurd hy (by simp)) y)) ?_
   refine Al (c := .sc (.bool p.fPresent)) s7 D6 rfl ?_
   refine E3 ?_
   refine B0 (cs' := [.sc (.int .i64 p.fType), .sc (.bool false), .sc (.int .i64 0), .sc (.bool false), .sc (.int .i64 0), .sc (.string (⟨#[]⟩)), .nl, .sc (.string (⟨#[]⟩)), .sc (.int .i64 0), .sc (.bool false), .sc (.int .i64 0), .sc (.bool false), .sc (.string (⟨#[]⟩)), .nl, .sc (.int .i64 0), .sc (.bool false), .sc (.bool false), .sc (.string (⟨#[]⟩)), .sc (.bool false), .nl, .sc (.int .i64 p.fCode), .sc (.bool false), .nl, .nl, .nl]) s7 (.here) (Am rfl) rfl (Bs rfl) rfl fun H s37 => ?_
   refine Ad (o' := 21) rfl ?_
   refine B0 (cs' := [.sc (.int .i64 p.fType), .sc (.bool false), .sc (.int .i64 0), .sc (.bool false), .sc (.int .i64 0), .sc (.string (⟨#[]⟩)), .nl, .sc (.string (⟨#[]⟩)), .sc (.int .i64 0), .sc (.bool false), .sc (.int .i64 0), .sc (.bool false), .sc (.string (⟨#[]⟩)), .nl, .sc (.int .i64 0), .sc (.bool false), .sc (.bool false), .sc (.string (⟨#[]⟩)), .sc (.bool false), .nl, .sc (.int .i64 p.fCode), .sc (.bool p.fPresent), .nl, .nl, .nl]) s37 (.here) (Am rfl) rfl (Bs rfl) rfl fun H s38 => ?_
   refine Bo s38 (.here) rfl ?_
   refine B0 (cs' := [.sc (.int .i64 p.fType), .sc (.bool false), .sc (.int .i64 0), .sc (.bool false), .sc (.int .i64 0), .sc (.string (⟨#[]⟩)), .nl, .sc (.string (⟨#[]⟩)), .sc (.int .i64 0), .sc (.bool false), .sc (.int .i64 0), .sc (.bool false), .sc (.string (⟨#[]⟩)), .nl, .sc (.int .i64 0), .sc (.bool false), .sc (.bool false), .sc (.string (⟨#[]⟩)), .sc (.bool false), .nl, .sc (.int .i64 p.fCode), .sc (.bool p.fPresent), .nl, .nl, .nl]) s38 Id (Bl (Ab rfl (Ab rfl (Ab rfl (Ab rfl (Ab rfl (Ab rfl (Ab rfl (Ab rfl (Ab rfl (Ab rfl (Ab rfl (Ab rfl (Ab rfl (Ab rfl (Ab rfl (Ab rfl (Ab rfl (Ab rfl (Ab rfl (Ab rfl (Ab rfl (Ab rfl (Ab rfl (Ab rfl (Ab rfl rfl)))))))))))))))))))))))))) rfl (Bs rfl) rfl fun H s39 => ?_
   refine Bo s39 (.here) rfl ?_
   have e : Aq false p = (⟨p.fType, false, 0, false, 0, ⟨#[]⟩, ⟨#[]⟩, ⟨#[]⟩, 0, false, 0, false, ⟨#[]⟩, ⟨#[]⟩, 0, false, false, ⟨#[]⟩, false, ⟨#[]⟩, p.fCode, p.fPresent, [], [], []⟩ : Ar) := by
    clear hk s0 s2 s4 s6 s7 s37 s38 s39
    simp only [decide_eq_true_eq, decide_eq_false_iff_not] at h8 h36
    simp [Aq, Ct, Cs, Dn, h8, h36]
   rw [e] at hk
   exact hk _ _ (fun L' => (.cons .sc (.cons .sc (.cons .sc (.cons .sc (.cons .sc (.cons .sc (.cons .nl (.cons .sc (.cons .sc (.cons .sc (.cons .sc (.cons .sc (.cons .sc (.cons .nl (.cons .sc (.cons .sc (.cons .sc (.cons .sc (.cons .sc (.cons .nl (.cons .sc (.cons .sc (.cons .nl (.cons .nl (.cons .nl .nil)))))))))))))))))))))))))) s39.tail.tail.tail
  ·refine Bf h36 ?_
   refine Au ?_
   refine Ac ((decide (p.fType = 3))) (fun h40 => ?_) (fun h40 => ?_)
   ·refine A0 h40 ?_
    refine Ad (o' := 2) rfl ?_
    refine Al (c := .sc (.int .i64 p.fQos)) s7 D6 rfl ?_
    refine Ad (o' := 3) rfl ?_
    refine Ad (o' := 5) rfl ?_
    refine Ad (o' := 6) rfl ?_
    refine Ad (o' := 2) rfl ?_
    refine Ea s7 D6 (fun y hy => (List.mem_cons.1 hy).elim (fun e => ⟨_, _, _, _, e, _, (.here)⟩) ((fun y hy => absurd hy (by simp)) y)) ?_
    refine Al (c := .sc (.bool p.fRetain)) s7 D6 rfl ?_
    refine Ea s7 D6 (fun y hy => (List.mem_cons.1 hy).elim (fun e => ⟨_, _, _, _, e, _, (.here)⟩) ((fun y hy => absurd hy (by simp)) y)) ?_
    refine Al (c := .sc (.string p.fTopic)) s7 D6 rfl ?_
    refine Ea s7 D6 (fun y hy => (List.mem_cons.1 hy).elim (fun e => ⟨_, _, _, _, e, _, (.here)⟩) ((fun y hy => absurd hy (by simp)) y)) ?_
    refine Al (c := Ax p.fBody) s7 D6 rfl ?_
    refine E3 ?_
    refine B0 (cs' := [.sc (.int .i64 p.fType), .sc (.bool false), .sc (.int .i64 p.fQos), .sc (.bool false), .sc (.int .i64 0), .sc (.string (⟨#[]⟩)), .nl, .sc (.string (⟨#[]⟩)), .sc (.int .i64 0), .sc (.bool false), .sc (.int .i64 0), .sc (.bool false), .sc (.string (⟨#[]⟩)), .nl, .sc (.int .i64 0), .sc (.bool false), .sc (.bool false), .sc (.string (⟨#[]⟩)), .sc (.bool false), .nl, .sc (.int .i64 0), .sc (.bool false), .nl, .nl, .nl]) s7 (.here) (Am rfl) rfl (Bs rfl) rfl fun H s41 => ?_
    refine Ad (o' := 3) rfl ?_
    refine E3 ?_
    refine B0 (cs' := [.sc (.int .i64 p.fType), .sc (.bool false), .sc (.int .i64 p.fQos), .sc (.bool p.fRetain), .sc (.int .i64 0), .sc (.string (⟨#[]⟩)), .nl, .sc (.string (⟨#[]⟩)), .sc (.int .i64 0), .sc (.bool false), .sc (.int .i64 0), .sc (.bool false), .sc (.string (⟨#[]⟩)), .nl, .sc (.int .i64 0), .sc (.bool false), .sc (.bool false), .sc (.string (⟨#[]⟩)), .sc (.bool false), .nl, .sc (.int .i64 0), .sc (.bool false), .nl, .nl, .nl]) s41 (.here) (Am rfl) rfl (Bs rfl) rfl fun H s42 => ?_
    refine Ad (o' := 5) rfl ?_
    refine E3 ?_
    refine B0 (cs' := [.sc (.int .i64 p.fType), .sc (.bool false), .sc (.int .i64 p.fQos), .sc (.bool p.fRetain), .sc (.int .i64 0), .sc (.string p.fTopic), .nl, .sc (.string (⟨#[]⟩)), .sc (.int .i64 0), .sc (.bool false), .sc (.int .i64 0), .sc (.bool false), .sc (.string (⟨#[]⟩)), .nl, .sc (.int .i64 0), .sc (.bool false), .sc (.bool false), .sc (.string (⟨#[]⟩)), .sc (.bool false), .nl, .sc (.int .i64 0), .sc (.bool false), .nl, .nl, .nl]) s42 (.here) (Am rfl) rfl (Bs rfl) rfl fun H s43 => ?_
    refine Ad (o' := 6) rfl ?_
    refine B0 (cs' := [.sc (.int .i64 p.fType), .sc (.bool false), .sc (.int .i64 p.fQos), .sc (.bool p.fRetain), .sc (.int .i64 0), .sc (.string p.fTopic), Ax p.fBody, .sc (.string (⟨#[]⟩)), .sc (.int .i64 0), .sc (.bool false), .sc (.int .i64 0), .sc (.bool false), .sc (.string (⟨#[]⟩)), .nl, .sc (.int .i64 0), .sc (.bool false), .sc (.bool false), .sc (.string (⟨#[]⟩)), .sc (.bool false), .nl, .sc (.int .i64 0), .sc (.bool false), .nl, .nl, .nl]) s43 (.here) (Am rfl) rfl (Bs rfl) rfl fun H s44 => ?_
    refine Ad (o' := 2) rfl ?_
    refine Al (c := .sc (.int .i64 p.fQos)) s44 D6 rfl ?_
    refine Pt ?_
    refine Ac ((decide (0 < p.fQos))) (fun h45 => ?_) (fun h45 => ?_)
    ·refine A0 h45 ?_
     refine Ad (o' := 1) rfl ?_
     refine Al (c := .sc (.bool p.fDup)) s44 D6 rfl ?_
     refine Ad (o' := 4) rfl ?_
     refine Ad (o' := 1) rfl ?_
     refine Ea s44 D6 (fun y hy => (List.mem_cons.1 hy).elim (fun e => ⟨_, _, _, _, e, _, (.here)⟩) ((fun y hy => absurd hy (by simp)) y)) ?_
     refine Al (c := .sc (.int .i64 p.fId)) s44 D6 rfl ?_
     refine E3 ?_
     refine B0 (cs' := [.sc (.int .i64 p.fType), .sc (.bool p.fDup), .sc (.int .i64 p.fQos), .sc (.bool p.fRetain), .sc (.int .i64 0), .sc (.string p.fTopic), Ax p.fBody, .sc (.string (⟨#[]⟩)), .sc (.int .i64 0), .sc (.bool false), .sc (.int .i64 0), .sc (.bool false), .sc (.string (⟨#[]⟩)), .nl, .sc (.int .i64 0), .sc (.bool false), .sc (.bool false), .sc (.string (⟨#[]⟩)), .sc (.bool false), .nl, .sc (.int .i64 0), .sc (.bool false), .nl, .nl, .nl]) s44 (.here) (Am rfl) rfl (Bs rfl) rfl fun H s46 => ?_
     refine Ad (o' := 4) rfl ?_
     refine B0 (cs' := [.sc (.int .i64 p.fType), .sc (.bool p.fDup), .sc (.int .i64 p.fQos), .sc (.bool p.fRetain), .sc (.int .i64 p.fId), .sc (.string p.fTopic), Ax p.fBody, .sc (.string (⟨#[]⟩)), .sc (.int .i64 0), .sc (.bool false), .sc (.int .i64 0), .sc (.bool false), .sc (.string (⟨#[]⟩)), .nl, .sc (.int .i64 0), .sc (.bool false), .sc (.bool false), .sc (.string (⟨#[]⟩)), .sc (.bool false), .nl, .sc (.int .i64 0), .sc (.bool false), .nl, .nl, .nl]) s46 (.here) (Am rfl) rfl (Bs rfl) rfl fun H s47 => ?_
     refine Bo s47 (.here) rfl ?_
     refine B0 (cs' := [.sc (.int .i64 p.fType), .sc (.bool p.fDup), .sc (.int .i64 p.fQos), .sc (.bool p.fRetain), .sc (.int .i64 p.fId), .sc (.string p.fTopic), Ax p.fBody, .sc (.string (⟨#[]⟩)), .sc (.int .i64 0), .sc (.bool false), .sc (.int .i64 0), .sc (.bool false), .sc (.string (⟨#[]⟩)), .nl, .sc (.int .i64 0), .sc (.bool false), .sc (.bool false), .sc (.string (⟨#[]⟩)), .sc (.bool false), .nl, .sc (.int .i64 0), .sc (.bool false), .nl, .nl, .nl]) s47 Id (Bl (Ab rfl (Ab rfl (Ab rfl (Ab rfl (Ab rfl (Ab rfl (Ab rfl (Ab rfl (Ab rfl (Ab rfl (Ab rfl (Ab rfl (Ab rfl (Ab rfl (Ab rfl (Ab rfl (Ab rfl (Ab rfl (Ab rfl (Ab rfl (Ab rfl (Ab rfl (Ab rfl (Ab rfl (Ab rfl rfl)))))))))))))))))))))))))) rfl (Bs rfl) rfl fun H s48 => ?_
     refine Bo s48 (.here) rfl ?_
     have e : Aq false p = (⟨p.fType, p.fDup, p.fQos, p.fRetain, p.fId, p.fTopic, p.fBody, ⟨#[]⟩, 0, false, 0, false, ⟨#[]⟩, ⟨#[]⟩, 0, false, false, ⟨#[]⟩, false, ⟨#[]⟩, 0, false, [], [], []⟩ : Ar) := by
      clear hk s0 s2 s4 s6 s7 s41 s42 s43 s44 s46 s47 s48
      simp only [decide_eq_true_eq, decide_eq_false_iff_not] at h8 h36 h40 h45
      simp [Aq, Ct, Cs, Dn, h8, h36, h40, h45]
     rw [e] at hk
     exact hk _ _ (fun L' => (.cons .sc (.cons .sc (.cons .sc (.cons .sc (.cons .sc (.cons .sc (.cons .ro (.cons .sc (.cons .sc (.cons .sc (.cons .sc (.cons .sc (.cons .sc (.cons .nl (.cons .sc (.cons .sc (.cons .sc (.cons .sc (.cons .sc (.cons .nl (.cons .sc (.cons .sc (.cons .nl (.cons .nl (.cons .nl .nil)))))))))))))))))))))))))) s48.tail.tail.tail
    ·refine Bf h45 ?_
     refine Bo s44 (.here) rfl ?_
     refine B0 (cs' := [.sc (.int .i64 p.fType), .sc (.bool false), .sc (.int .i64 p.fQos), .sc (.bool p.fRetain), .sc (.int .i64 0), .sc (.string p.fTopic), Ax p.fBody, .sc (.string (⟨#[]⟩)), .sc (.int .i64 0), .sc (.bool false), .sc (.int .i64 0), .sc (.bool false), .sc (.string (⟨#[]⟩)), .nl, .sc (.int .i64 0), .sc (.bool false), .sc (.bool false), .sc (.string (⟨#[]⟩)), .sc (.bool false), .nl, .sc (.int .i64 0), .sc (.bool false), .nl, .nl, .nl]) s44 Id (Bl (Ab rfl (Ab rfl (Ab rfl (Ab rfl (Ab rfl (Ab rfl (Ab rfl (Ab rfl (Ab rfl (Ab rfl (Ab rfl (Ab rfl (Ab rfl (Ab rfl (Ab rfl (Ab rfl (Ab rfl (Ab rfl (Ab rfl (Ab rfl (Ab rfl (Ab rfl (Ab rfl (Ab rfl (Ab rfl rfl)))))))))))))))))))))))))) rfl (Bs rfl) rfl fun H s49 => ?_
     refine Bo s49 (.here) rfl ?_
     have e : Aq false p = (⟨p.fType, false, p.fQos, p.fRetain, 0, p.fTopic, p.fBody, ⟨#[]⟩, 0, false, 0, false, ⟨#[]⟩, ⟨#[]⟩, 0, false, false, ⟨#[]⟩, false, ⟨#[]⟩, 0, false, [], [], []⟩ : Ar) := by
      clear hk s0 s2 s4 s6 s7 s41 s42 s43 s44 s49
      simp only [decide_eq_true_eq, decide_eq_false_iff_not] at h8 h36 h40 h45
      simp [Aq, Ct, Cs, Dn, h8, h36, h40, h45]
     rw [e] at hk
     exact hk _ _ (fun L' => (.cons .sc (.cons .sc (.cons .sc (.cons .sc (.cons .sc (.cons .sc (.cons .ro (.cons .sc (.cons .sc (.cons .sc (.cons .sc (.cons .sc (.cons .sc (.cons .nl (.cons .sc (.cons .sc (.cons .sc (.cons .sc (.cons .sc (.cons .nl (.cons .sc (.cons .sc (.cons .nl (.cons .nl (.cons .nl .nil)))))))))))))))))))))))))) s49.tail.tail.tail
   ·refine Bf h40 ?_
    refine Au ?_
    refine Fm ?_
    refine Ac ((decide (p.fType = 4))) (fun h50 => ?_) (fun h50 => ?_)
    ·refine A0 h50 ?_
     refine A0 h50 ?_
     refine Ad (o' := 4) rfl ?_
     refine Al (c := .sc (.int .i64 p.fId)) s7 D6 rfl ?_
     refine Ad (o' := 4) rfl ?_
     refine B0 (cs' := [.sc (.int .i64 p.fType), .sc (.bool false), .sc (.int .i64 0), .sc (.bool false), .sc (.int .i64 p.fId), .sc (.string (⟨#[]⟩)), .nl, .sc (.string (⟨#[]⟩)), .sc (.int .i64 0), .sc (.bool false), .sc (.int .i64 0), .sc (.bool false), .sc (.string (⟨#[]⟩)), .nl, .sc (.int .i64 0), .sc (.bool false), .sc (.bool false), .sc (.string (⟨#[]⟩)), .sc (.bool false), .nl, .sc (.int .i64 0), .sc (.bool false), .nl, .nl, .nl]) s7 (.here) (Am rfl) rfl (Bs rfl) rfl fun H s51 => ?_
     refine Bo s51 (.here) rfl ?_
     refine B0 (cs' := [.sc (.int .i64 p.fType), .sc (.bool false), .sc (.int .i64 0), .sc (.bool false), .sc (.int .i64 p.fId), .sc (.string (⟨#[]⟩)), .nl, .sc (.string (⟨#[]⟩)), .sc (.int .i64 0), .sc (.bool false), .sc (.int .i64 0), .sc (.bool false), .sc (.string (⟨#[]⟩)), .nl, .sc (.int .i64 0), .sc (.bool false), .sc (.bool false), .sc (.string (⟨#[]⟩)), .sc (.bool false), .nl, .sc (.int .i64 0), .sc (.bool false), .nl, .nl, .nl]) s51 Id (Bl (Ab rfl (Ab rfl (Ab rfl (Ab rfl (Ab rfl (Ab rfl (Ab rfl (Ab rfl (Ab rfl (Ab rfl (Ab rfl (Ab rfl (Ab rfl (Ab rfl (Ab rfl (Ab rfl (Ab rfl (Ab rfl (Ab rfl (Ab rfl (Ab rfl (Ab rfl (Ab rfl (Ab rfl (Ab rfl rfl)))))))))))))))))))))))))) rfl (Bs rfl) rfl fun H s52 => ?_
     refine Bo s52 (.here) rfl ?_
     have e : Aq false p = (⟨p.fType, false, 0, false, p.fId, ⟨#[]⟩, ⟨#[]⟩, ⟨#[]⟩, 0, false, 0, false, ⟨#[]⟩, ⟨#[]⟩, 0, false, false, ⟨#[]⟩, false, ⟨#[]⟩, 0, false, [], [], []⟩ : Ar) := by
      clear hk s0 s2 s4 s6 s7 s51 s52
      simp only [decide_eq_true_eq, decide_eq_false_iff_not] at h8 h36 h40 h50
      simp [Aq, Ct, Cs, Dn, h8, h36, h40, h50]
     rw [e] at hk
     exact hk _ _ (fun L' => (.cons .sc (.cons .sc (.cons .sc (.cons .sc (.cons .sc (.cons .sc (.cons .nl (.cons .sc (.cons .sc (.cons .sc (.cons .sc (.cons .sc (.cons .sc (.cons .nl (.cons .sc (.cons .sc (.cons .sc (.cons .sc (.cons .sc (.cons .nl (.cons .sc (.cons .sc (.cons .nl (.cons .nl (.cons .nl .nil)))))))))))))))))))))))))) s52.tail.tail.tail
    ·refine Bf h50 ?_
     refine Au ?_
     refine Ac ((decide (p.fType = 5))) (fun h53 => ?_) (fun h53 => ?_)
     ·refine A0 h53 ?_
      refine A0 h53 ?_
      refine Ad (o' := 4) rfl ?_
      refine Al (c := .sc (.int .i64 p.fId)) s7 D6 rfl ?_
      refine Ad (o' := 4) rfl ?_
      refine B0 (cs' := [.sc (.int .i64 p.fType), .sc (.bool false), .sc (.int .i64 0), .sc (.bool false), .sc (.int .i64 p.fId), .sc (.string (⟨#[]⟩)), .nl, .sc (.string (⟨#[]⟩)), .sc (.int .i64 0), .sc (.bool false), .sc (.int .i64 0), .sc (.bool false), .sc (.string (⟨#[]⟩)), .nl, .sc (.int .i64 0), .sc (.bool false), .sc (.bool false), .sc (.string (⟨#[]⟩)), .sc (.bool false), .nl, .sc (.int .i64 0), .sc (.bool false), .nl, .nl, .nl]) s7 (.here) (Am rfl) rfl (Bs rfl) rfl fun H s54 => ?_
      refine Bo s54 (.here) rfl ?_
      refine B0 (cs' := [.sc (.int .i64 p.fType), .sc (.bool false), .sc (.int .i64 0), .sc (.bool false), .sc (.int .i64 p.fId), .sc (.string (⟨#[]⟩)), .nl, .sc (.string (⟨#[]⟩)), .sc (.int .i64 0), .sc (.bool false), .sc (.int .i64 0), .sc (.bool false), .sc (.string (⟨#[]⟩)), .nl, .sc (.int .i64 0), .sc (.bool false), .sc (.bool false), .sc (.string (⟨#[]⟩)), .sc (.bool false), .nl, .sc (.int .i64 0), .sc (.bool false), .nl, .nl, .nl]) s54 Id (Bl (Ab rfl (Ab rfl (Ab rfl (Ab rfl (Ab rfl (Ab rfl (Ab rfl (Ab rfl (Ab rfl (Ab rfl (Ab rfl (Ab rfl (Ab rfl (Ab rfl (Ab rfl (Ab rfl (Ab rfl (Ab rfl (Ab rfl (Ab rfl (Ab rfl (Ab rfl (Ab rfl (Ab rfl (Ab rfl rfl)))))))))))))))))))))))))) rfl (Bs rfl) rfl fun H s55 => ?_
      refine Bo s55 (.here) rfl ?_
      have e : Aq false p = (⟨p.fType, false, 0, false, p.fId, ⟨#[]⟩, ⟨#[]⟩, ⟨#[]⟩, 0, false, 0, false, ⟨#[]⟩, ⟨#[]⟩, 0, false, false, ⟨#[]⟩, false, ⟨#[]⟩, 0, false, [], [], []⟩ : Ar) := by
       clear hk s0 s2 s4 s6 s7 s54 s55
       simp only [decide_eq_true_eq, decide_eq_false_iff_not] at h8 h36 h40 h50 h53
       simp [Aq, Ct, Cs, Dn, h8, h36, h40, h50, h53]
      rw [e] at hk
      exact hk _ _ (fun L' => (.cons .sc (.cons .sc (.cons .sc (.cons .sc (.cons .sc (.cons .sc (.cons .nl (.cons .sc (.cons .sc (.cons .sc (.cons .sc (.cons .sc (.cons .sc (.cons .nl (.cons .sc (.cons .sc (.cons .sc (.cons .sc (.cons .sc (.cons .nl (.cons .sc (.cons .sc (.cons .nl (.cons .nl (.cons .nl .nil)))))))))))))))))))))))))) s55.tail.tail.tail
     ·refine Bf h53 ?_
      refine Au ?_
      refine Ac ((decide (p.fType = 6))) (fun h56 => ?_) (fun h56 => ?_)
      ·refine A0 h56 ?_
       refine A0 h56 ?_
       refine Ad (o' := 4) rfl ?_
       refine Al (c := .sc (.int .i64 p.fId)) s7 D6 rfl ?_
       refine Ad (o' := 4) rfl ?_
       refine B0 (cs' := [.sc (.int .i64 p.fType), .sc (.bool false), .sc (.int .i64 0), .sc (.bool false), .sc (.int .i64 p.fId), .sc (.string (⟨#[]⟩)), .nl, .sc (.string (⟨#[]⟩)), .sc (.int .i64 0), .sc (.bool false), .sc (.int .i64 0), .sc (.bool false), .sc (.string (⟨#[]⟩)), .nl, .sc (.int .i64 0), .sc (.bool false), .sc (.bool false), .sc (.string (⟨#[]⟩)), .sc (.bool false), .nl, .sc (.int .i64 0), .sc (.bool false), .nl, .nl, .nl]) s7 (.here) (Am rfl) rfl (Bs rfl) rfl fun H s57 => ?_
       refine Bo s57 (.here) rfl ?_
       refine B0 (cs' := [.sc (.int .i64 p.fType), .sc (.bool false), .sc (.int .i64 0), .sc (.bool false), .sc (.int .i64 p.fId), .sc (.string (⟨#[]⟩)), .nl, .sc (.string (⟨#[]⟩)), .sc (.int .i64 0), .sc (.bool false), .sc (.int .i64 0), .sc (.bool false), .sc (.string (⟨#[]⟩)), .nl, .sc (.int .i64 0), .sc (.bool false), .sc (.bool false), .sc (.string (⟨#[]⟩)), .sc (.bool false), .nl, .sc (.int .i64 0), .sc (.bool false), .nl, .nl, .nl]) s57 Id (Bl (Ab rfl (Ab rfl (Ab rfl (Ab rfl (Ab rfl (Ab rfl (Ab rfl (Ab rfl (Ab rfl (Ab rfl (Ab rfl (Ab rfl (Ab rfl (Ab rfl (Ab rfl (Ab rfl (Ab rfl (Ab rfl (Ab rfl (Ab rfl (Ab rfl (Ab rfl (Ab rfl (Ab rfl (Ab rfl rfl)))))))))))))))))))))))))) rfl (Bs rfl) rfl fun H s58 => ?_
       refine Bo s58 (.here) rfl ?_
       have e : Aq false p = (⟨p.fType, false, 0, false, p.fId, ⟨#[]⟩, ⟨#[]⟩, ⟨#[]⟩, 0, false, 0, false, ⟨#[]⟩, ⟨#[]⟩, 0, false, false, ⟨#[]⟩, false, ⟨#[]⟩, 0, false, [], [], []⟩ : Ar) := by
        clear hk s0 s2 s4 s6 s7 s57 s58
        simp only [decide_eq_true_eq, decide_eq_false_iff_not] at h8 h36 h40 h50 h53 h56
        simp [Aq, Ct, Cs, Dn, h8, h36, h40, h50, h53, h56]
       rw [e] at hk
       exact hk _ _ (fun L' => (.cons .sc (.cons .sc (.cons .sc (.cons .sc (.cons .sc (.cons .sc (.cons .nl (.cons .sc (.cons .sc (.cons .sc (.cons .sc (.cons .sc (.cons .sc (.cons .nl (.cons .sc (.cons .sc (.cons .sc (.cons .sc (.cons .sc (.cons .nl (.cons .sc (.cons .sc (.cons .nl (.cons .nl (.cons .nl .nil)))))))))))))))))))))))))) s58.tail.tail.tail
      ·refine Bf h56 ?_
       refine Au ?_
       refine Ac ((decide (p.fType = 7))) (fun h59 => ?_) (fun h59 => ?_)
       ·refine A0 h59 ?_
        refine A0 h59 ?_
        refine Ad (o' := 4) rfl ?_
        refine Al (c := .sc (.int .i64 p.fId)) s7 D6 rfl ?_
        refine Ad (o' := 4) rfl ?_
        refine B0 (cs' := [.sc (.int .i64 p.fType), .sc (.bool false), .sc (.int .i64 0), .sc (.bool false), .sc (.int .i64 p.fId), .sc (.string (⟨#[]⟩)), .nl, .sc (.string (⟨#[]⟩)), .sc (.int .i64 0), .sc (.bool false), .sc (.int .i64 0), .sc (.bool false), .sc (.string (⟨#[]⟩)), .nl, .sc (.int .i64 0), .sc (.bool false), .sc (.bool false), .sc (.string (⟨#[]⟩)), .sc (.bool false), .nl, .sc (.int .i64 0), .sc (.bool false), .nl, .nl, .nl]) s7 (.here) (Am rfl) rfl (Bs rfl) rfl fun H s60 => ?_
        refine Bo s60 (.here) rfl ?_
        refine B0 (cs' := [.sc (.int .i64 p.fType), .sc (.bool false), .sc (.int .i64 0), .sc (.bool false), .sc (.int .i64 p.fId), .sc (.string (⟨#[]⟩)), .nl, .sc (.string (⟨#[]⟩)), .sc (.int .i64 0), .sc (.bool false), .sc (.int .i64 0), .sc (.bool false), .sc (.string (⟨#[]⟩)), .nl, .sc (.int .i64 0), .sc (.bool false), .sc (.bool false), .sc (.string (⟨#[]⟩)), .sc (.bool false), .nl, .sc (.int .i64 0), .sc (.bool false), .nl, .nl, .nl]) s60 Id (Bl (Ab rfl (Ab rfl (Ab rfl (Ab rfl (Ab rfl (Ab rfl (Ab rfl (Ab rfl (Ab rfl (Ab rfl (Ab rfl (Ab rfl (Ab rfl (Ab rfl (Ab rfl (Ab rfl (Ab rfl (Ab rfl (Ab rfl (Ab rfl (Ab rfl (Ab rfl (Ab rfl (Ab rfl (Ab rfl rfl)))))))))))))))))))))))))) rfl (Bs rfl) rfl fun H s61 => ?_
        refine Bo s61 (.here) rfl ?_
        have e : Aq false p = (⟨p.fType, false, 0, false, p.fId, ⟨#[]⟩, ⟨#[]⟩, ⟨#[]⟩, 0, false, 0, false, ⟨#[]⟩, ⟨#[]⟩, 0, false, false, ⟨#[]⟩, false, ⟨#[]⟩, 0, false, [], [], []⟩ : Ar) := by
         clear hk s0 s2 s4 s6 s7 s60 s61
         simp only [decide_eq_true_eq, decide_eq_false_iff_not] at h8 h36 h40 h50 h53 h56 h59
         simp [Aq, Ct, Cs, Dn, h8, h36, h40, h50, h53, h56, h59]
        rw [e] at hk
        exact hk _ _ (fun L' => (.cons .sc (.cons .sc (.cons .sc (.cons .sc (.cons .sc (.cons .sc (.cons .nl (.cons .sc (.cons .sc (.cons .sc (.cons .sc (.cons .sc (.cons .sc (.cons .nl (.cons .sc (.cons .sc (.cons .sc (.cons .sc (.cons .sc (.cons .nl (.cons .sc (.cons .sc (.cons .nl (.cons .nl (.cons .nl .nil)))))))))))))))))))))))))) s61.tail.tail.tail
       ·refine Bf h59 ?_
        refine Au ?_
        refine Ac ((decide (p.fType = 11))) (fun h62 => ?_) (fun h62 => ?_)
        ·refine A0 h62 ?_
         refine Ad (o' := 4) rfl ?_
         refine Al (c := .sc (.int .i64 p.fId)) s7 D6 rfl ?_
         refine Ad (o' := 4) rfl ?_
         refine B0 (cs' := [.sc (.int .i64 p.fType), .sc (.bool false), .sc (.int .i64 0), .sc (.bool false), .sc (.int .i64 p.fId), .sc (.string (⟨#[]⟩)), .nl, .sc (.string (⟨#[]⟩)), .sc (.int .i64 0), .sc (.bool false), .sc (.int .i64 0), .sc (.bool false), .sc (.string (⟨#[]⟩)), .nl, .sc (.int .i64 0), .sc (.bool false), .sc (.bool false), .sc (.string (⟨#[]⟩)), .sc (.bool false), .nl, .sc (.int .i64 0), .sc (.bool false), .nl, .nl, .nl]) s7 (.here) (Am rfl) rfl (Bs rfl) rfl fun H s63 => ?_
         refine Bo s63 (.here) rfl ?_
         refine B0 (cs' := [.sc (.int .i64 p.fType), .sc (.bool false), .sc (.int .i64 0), .sc (.bool false), .sc (.int .i64 p.fId), .sc (.string (⟨#[]⟩)), .nl, .sc (.string (⟨#[]⟩)), .sc (.int .i64 0), .sc (.bool false), .sc (.int .i64 0), .sc (.bool false), .sc (.string (⟨#[]⟩)), .nl, .sc (.int .i64 0), .sc (.bool false), .sc (.bool false), .sc (.string (⟨#[]⟩)), .sc (.bool false), .nl, .sc (.int .i64 0), .sc (.bool false), .nl, .nl, .nl]) s63 Id (Bl (Ab rfl (Ab rfl (Ab rfl (Ab rfl (Ab rfl (Ab rfl (Ab rfl (Ab rfl (Ab rfl (Ab rfl (Ab rfl (Ab rfl (Ab rfl (Ab rfl (Ab rfl (Ab rfl (Ab rfl (Ab rfl (Ab rfl (Ab rfl (Ab rfl (Ab rfl (Ab rfl (Ab rfl (Ab rfl rfl)))))))))))))))))))))))))) rfl (Bs rfl) rfl fun H s64 => ?_
         refine Bo s64 (.here) rfl ?_
         have e : Aq false p = (⟨p.fType, false, 0, false, p.fId, ⟨#[]⟩, ⟨#[]⟩, ⟨#[]⟩, 0, false, 0, false, ⟨#[]⟩, ⟨#[]⟩, 0, false, false, ⟨#[]⟩, false, ⟨#[]⟩, 0, false, [], [], []⟩ : Ar) := by
          clear hk s0 s2 s4 s6 s7 s63 s64
          simp only [decide_eq_true_eq, decide_eq_false_iff_not] at h8 h36 h40 h50 h53 h56 h59 h62
          simp [Aq, Ct, Cs, Dn, h8, h36, h40, h50, h53, h56, h59, h62]
         rw [e] at hk
         exact hk _ _ (fun L' => (.cons .sc (.cons .sc (.cons .sc (.cons .sc (.cons .sc (.cons .sc (.cons .nl (.cons .sc (.cons .sc (.cons .sc (.cons .sc (.cons .sc (.cons .sc (.cons .nl (.cons .sc (.cons .sc (.cons .sc (.cons .sc (.cons .sc (.cons .nl (.cons .sc (.cons .sc (.cons .nl (.cons .nl (.cons .nl .nil)))))))))))))))))))))))))) s64.tail.tail.tail
        ·refine Bf h62 ?_
         refine Au ?_
         refine Ac ((decide (p.fType = 8))) (fun h65 => ?_) (fun h65 => ?_)
         ·refine A0 h65 ?_
          refine Ad (o' := 4) rfl ?_
          refine Al (c := .sc (.int .i64 p.fId)) s7 D6 rfl ?_
          refine Ad (o' := 22) rfl ?_
          refine Ad (o' := 4) rfl ?_
          refine Ea s7 D6 (fun y hy => (List.mem_cons.1 hy).elim (fun e => ⟨_, _, _, _, e, _, (.here)⟩) ((fun y hy => absurd hy (by simp)) y)) ?_
          refine Al (c := Bq Bg p.fWants) s7 D6 rfl ?_
          refine E3 ?_
          refine B0 (cs' := [.sc (.int .i64 p.fType), .sc (.bool false), .sc (.int .i64 0), .sc (.bool false), .sc (.int .i64 p.fId), .sc (.string (⟨#[]⟩)), .nl, .sc (.string (⟨#[]⟩)), .sc (.int .i64 0), .sc (.bool false), .sc (.int .i64 0), .sc (.bool false), .sc (.string (⟨#[]⟩)), .nl, .sc (.int .i64 0), .sc (.bool false), .sc (.bool false), .sc (.string (⟨#[]⟩)), .sc (.bool false), .nl, .sc (.int .i64 0), .sc (.bool false), .nl, .nl, .nl]) s7 (.here) (Am rfl) rfl (Bs rfl) rfl fun H s66 => ?_
          refine Ad (o' := 22) rfl ?_
          refine B0 (cs' := [.sc (.int .i64 p.fType), .sc (.bool false), .sc (.int .i64 0), .sc (.bool false), .sc (.int .i64 p.fId), .sc (.string (⟨#[]⟩)), .nl, .sc (.string (⟨#[]⟩)), .sc (.int .i64 0), .sc (.bool false), .sc (.int .i64 0), .sc (.bool false), .sc (.string (⟨#[]⟩)), .nl, .sc (.int .i64 0), .sc (.bool false), .sc (.bool false), .sc (.string (⟨#[]⟩)), .sc (.bool false), .nl, .sc (.int .i64 0), .sc (.bool false), Bq Bg p.fWants, .nl, .nl]) s66 (.here) (Am rfl) rfl (Bs rfl) rfl fun H s67 => ?_
          refine Bo s67 (.here) rfl ?_
          refine B0 (cs' := [.sc (.int .i64 p.fType), .sc (.bool false), .sc (.int .i64 0), .sc (.bool false), .sc (.int .i64 p.fId), .sc (.string (⟨#[]⟩)), .nl, .sc (.string (⟨#[]⟩)), .sc (.int .i64 0), .sc (.bool false), .sc (.int .i64 0), .sc (.bool false), .sc (.string (⟨#[]⟩)), .nl, .sc (.int .i64 0), .sc (.bool false), .sc (.bool false), .sc (.string (⟨#[]⟩)), .sc (.bool false), .nl, .sc (.int .i64 0), .sc (.bool false), Bq Bg p.fWants, .nl, .nl]) s67 Id (Bl (Ab rfl (Ab rfl (Ab rfl (Ab rfl (Ab rfl (Ab rfl (Ab rfl (Ab rfl (Ab rfl (Ab rfl (Ab rfl (Ab rfl (Ab rfl (Ab rfl (Ab rfl (Ab rfl (Ab rfl (Ab rfl (Ab rfl (Ab rfl (Ab rfl (Ab rfl (Ab rfl (Ab rfl (Ab rfl rfl)))))))))))))))))))))))))) rfl (Bs rfl) rfl fun H s68 => ?_
          refine Bo s68 (.here) rfl ?_
          have e : Aq false p = (⟨p.fType, false, 0, false, p.fId, ⟨#[]⟩, ⟨#[]⟩, ⟨#[]⟩, 0, false, 0, false, ⟨#[]⟩, ⟨#[]⟩, 0, false, false, ⟨#[]⟩, false, ⟨#[]⟩, 0, false, p.fWants, [], []⟩ : Ar) := by
           clear hk s0 s2 s4 s6 s7 s66 s67 s68
           simp only [decide_eq_true_eq, decide_eq_false_iff_not] at h8 h36 h40 h50 h53 h56 h59 h62 h65
           simp [Aq, Ct, Cs, Dn, h8, h36, h40, h50, h53, h56, h59, h62, h65]
          rw [e] at hk
          exact hk _ _ (fun L' => (.cons .sc (.cons .sc (.cons .sc (.cons .sc (.cons .sc (.cons .sc (.cons .nl (.cons .sc (.cons .sc (.cons .sc (.cons .sc (.cons .sc (.cons .sc (.cons .nl (.cons .sc (.cons .sc (.cons .sc (.cons .sc (.cons .sc (.cons .nl (.cons .sc (.cons .sc (.cons .ro (.cons .nl (.cons .nl .nil)))))))))))))))))))))))))) s68.tail.tail.tail
         ·refine Bf h65 ?_
          refine Au ?_
          refine Ac ((decide (p.fType = 9))) (fun h69 => ?_) (fun h69 => ?_)
          ·refine A0 h69 ?_
           refine Ad (o' := 4) rfl ?_
           refine Al (c := .sc (.int .i64 p.fId)) s7 D6 rfl ?_
           refine Ad (o' := 24) rfl ?_
           refine Ad (o' := 4) rfl ?_
           refine Ea s7 D6 (fun y hy => (List.mem_cons.1 hy).elim (fun e => ⟨_, _, _, _, e, _, (.here)⟩) ((fun y hy => absurd hy (by simp)) y)) ?_
           refine Al (c := Dl p.fCodes) s7 D6 rfl ?_
           refine E3 ?_
           refine B0 (cs' := [.sc (.int .i64 p.fType), .sc (.bool false), .sc (.int .i64 0), .sc (.bool false), .sc (.int .i64 p.fId), .sc (.string (⟨#[]⟩)), .nl, .sc (.string (⟨#[]⟩)), .sc (.int .i64 0), .sc (.bool false), .sc (.int .i64 0), .sc (.bool false), .sc (.string (⟨#[]⟩)), .nl, .sc (.int .i64 0), .sc (.bool false), .sc (.bool false), .sc (.string (⟨#[]⟩)), .sc (.bool false), .nl, .sc (.int .i64 0), .sc (.bool false), .nl, .nl, .nl]) s7 (.here) (Am rfl) rfl (Bs rfl) rfl fun H s70 => ?_
           refine Ad (o' := 24) rfl ?_
           refine B0 (cs' := [.sc (.int .i64 p.fType), .sc (.bool false), .sc (.int .i64 0), .sc (.bool false), .sc (.int .i64 p.fId), .sc (.string (⟨#[]⟩)), .nl, .sc (.string (⟨#[]⟩)), .sc (.int .i64 0), .sc (.bool false), .sc (.int .i64 0), .sc (.bool false), .sc (.string (⟨#[]⟩)), .nl, .sc (.int .i64 0), .sc (.bool false), .sc (.bool false), .sc (.string (⟨#[]⟩)), .sc (.bool false), .nl, .sc (.int .i64 0), .sc (.bool false), .nl, .nl, Dl p.fCodes]) s70 (.here) (Am rfl) rfl (Bs rfl) rfl fun H s71 => ?_
           refine Bo s71 (.here) rfl ?_
           refine B0 (cs' := [.sc (.int .i64 p.fType), .sc (.bool false), .sc (.int .i64 0), .sc (.bool false), .sc (.int .i64 p.fId), .sc (.string (⟨#[]⟩)), .nl, .sc (.string (⟨#[]⟩)), .sc (.int .i64 0), .sc (.bool false), .sc (.int .i64 0), .sc (.bool false), .sc (.string (⟨#[]⟩)), .nl, .sc (.int .i64 0), .sc (.bool false), .sc (.bool false), .sc (.string (⟨#[]⟩)), .sc (.bool false), .nl, .sc (.int .i64 0), .sc (.bool false), .nl, .nl, Dl p.fCodes]) s71 Id (Bl (Ab rfl (Ab rfl (Ab rfl (Ab rfl (Ab rfl (Ab rfl (Ab rfl (Ab rfl (Ab rfl (Ab rfl (Ab rfl (Ab rfl (Ab rfl (Ab rfl (Ab rfl (Ab rfl (Ab rfl (Ab rfl (Ab rfl (Ab rfl (Ab rfl (Ab rfl (Ab rfl (Ab rfl (Ab rfl rfl)))))))))))))))))))))))))) rfl (Bs rfl) rfl fun H s72 => ?_
           refine Bo s72 (.here) rfl ?_
           have e : Aq false p = (⟨p.fType, false, 0, false, p.fId, ⟨#[]⟩, ⟨#[]⟩, ⟨#[]⟩, 0, false, 0, false, ⟨#[]⟩, ⟨#[]⟩, 0, false, false, ⟨#[]⟩, false, ⟨#[]⟩, 0, false, [], [], p.fCodes⟩ : Ar) := by
            clear hk s0 s2 s4 s6 s7 s70 s71 s72
            simp only [decide_eq_true_eq, decide_eq_false_iff_not] at h8 h36 h40 h50 h53 h56 h59 h62 h65 h69
            simp [Aq, Ct, Cs, Dn, h8, h36, h40, h50, h53, h56, h59, h62, h65, h69]
           rw [e] at hk
           exact hk _ _ (fun L' => (.cons .sc (.cons .sc (.cons .sc (.cons .sc (.cons .sc (.cons .sc (.cons .nl (.cons .sc (.cons .sc (.cons .sc (.cons .sc (.cons .sc (.cons .sc (.cons .nl (.cons .sc (.cons .sc (.cons .sc (.cons .sc (.cons .sc (.cons .nl (.cons .sc (.cons .sc (.cons .nl (.cons .nl (.cons .ro .nil)))))))))))))))))))))))))) s72.tail.tail.tail
          ·refine Bf h69 ?_
           refine Au ?_
           refine Ac ((decide (p.fType = 10))) (fun h73 => ?_) (fun h73 => ?_)
           ·refine A0 h73 ?_
            refine Ad (o' := 4) rfl ?_
            refine Al (c := .sc (.int .i64 p.fId)) s7 D6 rfl ?_
            refine Ad (o' := 23) rfl ?_
            refine Ad (o' := 4) rfl ?_
            refine Ea s7 D6 (fun y hy => (List.mem_cons.1 hy).elim (fun e => ⟨_, _, _, _, e, _, (.here)⟩) ((fun y hy => absurd hy (by simp)) y)) ?_
            refine Al (c := Dc p.fNames) s7 D6 rfl ?_
            refine E3 ?_
            refine B0 (cs' := [.sc (.int .i64 p.fType), .sc (.bool false), .sc (.int .i64 0), .sc (.bool false), .sc (.int .i64 p.fId), .sc (.string (⟨#[]⟩)), .nl, .sc (.string (⟨#[]⟩)), .sc (.int .i64 0), .sc (.bool false), .sc (.int .i64 0), .sc (.bool false), .sc (.string (⟨#[]⟩)), .nl, .sc (.int .i64 0), .sc (.bool false), .sc (.bool false), .sc (.string (⟨#[]⟩)), .sc (.bool false), .nl, .sc (.int .i64 0), .sc (.bool false), .nl, .nl, .nl]) s7 (.here) (Am rfl) rfl (Bs rfl) rfl fun H s74 => ?_
            refine Ad (o' := 23) rfl ?_
            refine B0 (cs' := [.sc (.int .i64 p.fType), .sc (.bool false), .sc (.int .i64 0), .sc (.bool false), .sc (.int .i64 p.fId), .sc (.string (⟨#[]⟩)), .nl, .sc (.string (⟨#[]⟩)), .sc (.int .i64 0), .sc (.bool false), .sc (.int .i64 0), .sc (.bool false), .sc (.string (⟨#[]⟩)), .nl, .sc (.int .i64 0), .sc (.bool false), .sc (.bool false), .sc (.string (⟨#[]⟩)), .sc (.bool false), .nl, .sc (.int .i64 0), .sc (.bool false), .nl, Dc p.fNames, .nl]) s74 (.here) (Am rfl) rfl (Bs rfl) rfl fun H s75 => ?_
            refine Bo s75 (.here) rfl ?_
            refine B0 (cs' := [.sc (.int .i64 p.fType), .sc (.bool false), .sc (.int .i64 0), .sc (.bool false), .sc (.int .i64 p.fId), .sc (.string (⟨#[]⟩)), .nl, .sc (.string (⟨#[]⟩)), .sc (.int .i64 0), .sc (.bool false), .sc (.int .i64 0), .sc (.bool false), .sc (.string (⟨#[]⟩)), .nl, .sc (.int .i64 0), .sc (.bool false), .sc (.bool false), .sc (.string (⟨#[]⟩)), .sc (.bool false), .nl, .sc (.int .i64 0), .sc (.bool false), .nl, Dc p.fNames, .nl]) s75 Id (Bl (Ab rfl (Ab rfl (Ab rfl (Ab rfl (Ab rfl (Ab rfl (Ab rfl (Ab rfl (Ab rfl (Ab rfl (Ab rfl (Ab rfl (Ab rfl (Ab rfl (Ab rfl (Ab rfl (Ab rfl (Ab rfl (Ab rfl (Ab rfl (Ab rfl (Ab rfl (Ab rfl (Ab rfl (Ab rfl rfl)))))))))))))))))))))))))) rfl (Bs rfl) rfl fun H s76 => ?_
            refine Bo s76 (.here) rfl ?_
            have e : Aq false p = (⟨p.fType, false, 0, false, p.fId, ⟨#[]⟩, ⟨#[]⟩, ⟨#[]⟩, 0, false, 0, false, ⟨#[]⟩, ⟨#[]⟩, 0, false, false, ⟨#[]⟩, false, ⟨#[]⟩, 0, false, [], p.fNames, []⟩ : Ar) := by
             clear hk s0 s2 s4 s6 s7 s74 s75 s76
             simp only [decide_eq_true_eq, decide_eq_false_iff_not] at h8 h36 h40 h50 h53 h56 h59 h62 h65 h69 h73
             simp [Aq, Ct, Cs, Dn, h8, h36, h40, h50, h53, h56, h59, h62, h65, h69, h73]
            rw [e] at hk
            exact hk _ _ (fun L' => (.cons .sc (.cons .sc (.cons .sc (.cons .sc (.cons .sc (.cons .sc (.cons .nl (.cons .sc (.cons .sc (.cons .sc (.cons .sc (.cons .sc (.cons .sc (.cons .nl (.cons .sc (.cons .sc (.cons .sc (.cons .sc (.cons .sc (.cons .nl (.cons .sc (.cons .sc (.cons .nl (.cons .ro (.cons .nl .nil)))))))))))))))))))))))))) s76.tail.tail.tail
           ·refine Bf h73 ?_
            refine Bo s7 (.here) rfl ?_
            refine B0 (cs' := [.sc (.int .i64 p.fType), .sc (.bool false), .sc (.int .i64 0), .sc (.bool false), .sc (.int .i64 0), .sc (.string (⟨#[]⟩)), .nl, .sc (.string (⟨#[]⟩)), .sc (.int .i64 0), .sc (.bool false), .sc (.int .i64 0), .sc (.bool false), .sc (.string (⟨#[]⟩)), .nl, .sc (.int .i64 0), .sc (.bool false), .sc (.bool false), .sc (.string (⟨#[]⟩)), .sc (.bool false), .nl, .sc (.int .i64 0), .sc (.bool false), .nl, .nl, .nl]) s7 Id (Bl (Ab rfl (Ab rfl (Ab rfl (Ab rfl (Ab rfl (Ab rfl (Ab rfl (Ab rfl (Ab rfl (Ab rfl (Ab rfl (Ab rfl (Ab rfl (Ab rfl (Ab rfl (Ab rfl (Ab rfl (Ab rfl (Ab rfl (Ab rfl (Ab rfl (Ab rfl (Ab rfl (Ab rfl (Ab rfl rfl)))))))))))))))))))))))))) rfl (Bs rfl) rfl fun H s77 => ?_
            refine Bo s77 (.here) rfl ?_
            have e : Aq false p = (⟨p.fType, false, 0, false, 0, ⟨#[]⟩, ⟨#[]⟩, ⟨#[]⟩, 0, false, 0, false, ⟨#[]⟩, ⟨#[]⟩, 0, false, false, ⟨#[]⟩, false, ⟨#[]⟩, 0, false, [], [], []⟩ : Ar) := by
             clear hk s0 s2 s4 s6 s7 s77
             simp only [decide_eq_true_eq, decide_eq_false_iff_not] at h8 h36 h40 h50 h53 h56 h59 h62 h65 h69 h73
             simp [Aq, Ct, Cs, Dn, h8, h36, h40, h50, h53, h56, h59, h62, h65, h69, h73]
            rw [e] at hk
            exact hk _ _ (fun L' => (.cons .sc (.cons .sc (.cons .sc (.cons .sc (.cons .sc (.cons .sc (.cons .nl (.cons .sc (.cons .sc (.cons .sc (.cons .sc (.cons .sc (.cons .sc (.cons .nl (.cons .sc (.cons .sc (.cons .sc (.cons .sc (.cons .sc (.cons .nl (.cons .sc (.cons .sc (.cons .nl (.cons .nl (.cons .nl .nil)))))))))))))))))))))))))) s77.tail.tail.tail
theorem Ql (n : Nat) (hn : 1048576 < n) (p : Ar) {β : Type} {G : Option β → Prop} {KH : KO β} {H : Af} {L : List Ck} (s0 : Sep H (L)) (hk : ∀ raw H', (∀ L', VwL L' 7 raw (A6 (Aq true p))) → Sep H' L → Gd G (KH (.agg raw) H')) : Gd G (Ds E0 (n + 1) β 222 [.agg (A6 p)] H fun x H => KH x H) := by
 rw [Adp, f222]
 try simp only [Cl, Dm, A8, Az, Cw, A2, Ay, A1, Be, Dp]
 refine Hz s0 (Dr (B4 _)) fun i1 H s2 => ?_
 refine Pu s2 fun i3 H s4 => ?_
 refine Ad (o' := 0) rfl ?_
 refine Al (c := .sc (.int .i64 p.fType)) s4 Id rfl ?_
 refine Jx (cs := [.sc (.int .i64 p.fType), .sc (.bool false), .sc (.int .i64 0), .sc (.bool false), .sc (.int .i64 0), .sc (.string (⟨#[]⟩)), .nl, .sc (.string (⟨#[]⟩)), .sc (.int .i64 0), .sc (.bool false), .sc (.int .i64 0), .sc (.bool false), .sc (.string (⟨#[]⟩)), .nl, .sc (.int .i64 0), .sc (.bool false), .sc (.bool false), .sc (.string (⟨#[]⟩)), .sc (.bool false), .nl, .sc (.int .i64 0), .sc (.bool false), .nl, .nl, .nl]) rfl ?_
 refine Pu s4 fun i5 H s6 => ?_
 refine B0 (cs' := [.sc (.int .i64 p.fType), .sc (.bool false), .sc (.int .i64 0), .sc (.bool false), .sc (.int .i64 0), .sc (.string (⟨#[]⟩)), .nl, .sc (.string (⟨#[]⟩)), .sc (.int .i64 0), .sc (.bool false), .sc (.int .i64 0), .sc (.bool false), .sc (.string (⟨#[]⟩)), .nl, .sc (.int .i64 0), .sc (.bool false), .sc (.bool false), .sc (.string (⟨#[]⟩)), .sc (.bool false), .nl, .sc (.int .i64 0), .sc (.bool false), .nl, .nl, .nl]) s6 (.here) (Bl (Ab rfl (Ab rfl (Ab rfl (Ab rfl (Ab rfl (Ab rfl (Ab rfl (Ab rfl (Ab rfl (Ab rfl (Ab rfl (Ab rfl (Ab rfl (Ab rfl (Ab rfl (Ab rfl (Ab rfl (Ab rfl (Ab rfl (Ab rfl (Ab rfl (Ab rfl (Ab rfl (Ab rfl (Ab rfl rfl)))))))))))))))))))))))))) rfl (Bs rfl) rfl fun H s7 => ?_
 refine Ad (o' := 0) rfl ?_
 refine Al (c := .sc (.int .i64 p.fType)) s7 D6 rfl ?_
 refine Au ?_
 refine Ac ((decide (p.fType = 1))) (fun h8 => ?_) (fun h8 => ?_)
 ·refine A0 h8 ?_
  refine Ad (o' := 8) rfl ?_
  refine Al (c := .sc (.int .i64 p.fLevel)) s7 D6 rfl ?_
  refine Ad (o' := 8) rfl ?_
  refine B0 (cs' := [.sc (.int .i64 p.fType), .sc (.bool false), .sc (.int .i64 0), .sc (.bool false), .sc (.int .i64 0), .sc (.string (⟨#[]⟩)), .nl, .sc (.string (⟨#[]⟩)), .sc (.int .i64 p.fLevel), .sc (.bool false), .sc (.int .i64 0), .sc (.bool false), .sc (.string (⟨#[]⟩)), .nl, .sc (.int .i64 0), .sc (.bool false), .sc (.bool false), .sc (.string (⟨#[]⟩)), .sc (.bool false), .nl, .sc (.int .i64 0), .sc (.bool false), .nl, .nl, .nl]) s7 (.here) (Am rfl) rfl (Bs rfl) rfl fun H s9 => ?_
  refine Ad (o' := 7) rfl ?_
  refine Al (c := .sc (.string p.fClient)) s9 D6 rfl ?_
  refine Ad (o' := 7) rfl ?_
  refine B0 (cs' := [.sc (.int .i64 p.fType), .sc (.bool false), .sc (.int .i64 0), .sc (.bool false), .sc (.int .i64 0), .sc (.string (⟨#[]⟩)), .nl, .sc (.string p.fClient), .sc (.int .i64 p.fLevel), .sc (.bool false), .sc (.int .i64 0), .sc (.bool false), .sc (.string (⟨#[]⟩)), .nl, .sc (.int .i64 0), .sc (.bool false), .sc (.bool false), .sc (.string (⟨#[]⟩)), .sc (.bool false), .nl, .sc (.int .i64 0), .sc (.bool false), .nl, .nl, .nl]) s9 (.here) (Am rfl) rfl (Bs rfl) rfl fun H s10 => ?_
  refine Ad (o' := 9) rfl ?_
  refine Al (c := .sc (.bool p.fClean)) s10 D6 rfl ?_
  refine Ad (o' := 9) rfl ?_
  refine B0 (cs' := [.sc (.int .i64 p.fType), .sc (.bool false), .sc (.int .i64 0), .sc (.bool false), .sc (.int .i64 0), .sc (.string (⟨#[]⟩)), .nl, .sc (.string p.fClient), .sc (.int .i64 p.fLevel), .sc (.bool p.fClean), .sc (.int .i64 0), .sc (.bool false), .sc (.string (⟨#[]⟩)), .nl, .sc (.int .i64 0), .sc (.bool false), .sc (.bool false), .sc (.string (⟨#[]⟩)), .sc (.bool false), .nl, .sc (.int .i64 0), .sc (.bool false), .nl, .nl, .nl]) s10 (.here) (Am rfl) rfl (Bs rfl) rfl fun H s11 => ?_
  refine Ad (o' := 10) rfl ?_
  refine Al (c := .sc (.int .i64 p.fKeep)) s11 D6 rfl ?_
  refine Ad (o' := 10) rfl ?_
  refine B0 (cs' := [.sc (.int .i64 p.fType), .sc (.bool false), .sc (.int .i64 0), .sc (.bool false), .sc (.int .i64 0), .sc (.string (⟨#[]⟩)), .nl, .sc (.string p.fClient), .sc (.int .i64 p.fLevel), .sc (.bool p.fClean), .sc (.int .i64 p.fKeep), .sc (.bool false), .sc (.string (⟨#[]⟩)), .nl, .sc (.int .i64 0), .sc (.bool false), .sc (.bool false), .sc (.string (⟨#[]⟩)), .sc (.bool false), .nl, .sc (.int .i64 0), .sc (.bool false), .nl, .nl, .nl]) s11 (.here) (Am rfl) rfl (Bs rfl) rfl fun H s12 => ?_
  refine Ad (o' := 11) rfl ?_
  refine Al (c := .sc (.bool p.fHasWill)) s12 D6 rfl ?_
  refine Fm ?_
  refine Ac (p.fHasWill) (fun h13 => ?_) (fun h13 => ?_)
  ·refine A0 h13 ?_
   refine Ad (o' := 11) rfl ?_
   refine B0 (cs' := [.sc (.int .i64 p.fType), .sc (.bool false), .sc (.int .i64 0), .sc (.bool false), .sc (.int .i64 0), .sc (.string (⟨#[]⟩)), .nl, .sc (.string p.fClient), .sc (.int .i64 p.fLevel), .sc (.bool p.fClean), .sc (.int .i64 p.fKeep), .sc (.bool true), .sc (.string (⟨#[]⟩)), .nl, .sc (.int .i64 0), .sc (.bool false), .sc (.bool false), .sc (.string (⟨#[]⟩)), .sc (.bool false), .nl, .sc (.int .i64 0), .sc (.bool false), .nl, .nl, .nl]) s12 (.here) (Am rfl) rfl (Bs rfl) rfl fun H s14 => ?_
   refine Ad (o' := 12) rfl ?_
   refine Al (c := .sc (.string p.fWTopic)) s14 D6 rfl ?_
   refine Ad (o' := 12) rfl ?_
   refine B0 (cs' := [.sc (.int .i64 p.fType), .sc (.bool false), .sc (.int .i64 0), .sc (.bool false), .sc (.int .i64 0), .sc (.string (⟨#[]⟩)), .nl, .sc (.string p.fClient), .sc (.int .i64 p.fLevel), .sc (.bool p.fClean), .sc (.int .i64 p.fKeep), .sc (.bool true), .sc (.string p.fWTopic), .nl, .sc (.int .i64 0), .sc (.bool false), .sc (.bool false), .sc (.string (⟨#[]⟩)), .sc (.bool false), .nl, .sc (.int .i64 0), .sc (.bool false), .nl, .nl, .nl]) s14 (.here) (Am rfl) rfl (Bs rfl) rfl fun H s15 => ?_
   refine Ad (o' := 13) rfl ?_
   refine Al (c := Ax p.fWBody) s15 D6 rfl ?_
   refine Ad (o' := 13) rfl ?_
   refine B0 (cs' := [.sc (.int .i64 p.fType), .sc (.bool false), .sc (.int .i64 0), .sc (.bool false), .sc (.int .i64 0), .sc (.string (⟨#[]⟩)), .nl, .sc (.string p.fClient), .sc (.int .i64 p.fLevel), .sc (.bool p.fClean), .sc (.int .i64 p.fKeep), .sc (.bool true), .sc (.string p.fWTopic), Ax p.fWBody, .sc (.int .i64 0), .sc (.bool false), .sc (.bool false), .sc (.string (⟨#[]⟩)), .sc (.bool false), .nl, .sc (.int .i64 0), .sc (.bool false), .nl, .nl, .nl]) s15 (.here) (Am rfl) rfl (Bs rfl) rfl fun H s16 => ?_
   refine Ad (o' := 14) rfl ?_
   refine Al (c := .sc (.int .i64 p.fWQos)) s16 D6 rfl ?_
   refine Ad (o' := 14) rfl ?_
   refine B0 (cs' := [.sc (.int .i64 p.fType), .sc (.bool false), .sc (.int .i64 0), .sc (.bool false), .sc (.int .i64 0), .sc (.string (⟨#[]⟩)), .nl, .sc (.string p.fClient), .sc (.int .i64 p.fLevel), .sc (.bool p.fClean), .sc (.int .i64 p.fKeep), .sc (.bool true), .sc (.string p.fWTopic), Ax p.fWBody, .sc (.int .i64 p.fWQos), .sc (.bool false), .sc (.bool false), .sc (.string (⟨#[]⟩)), .sc (.bool false), .nl, .sc (.int .i64 0), .sc (.bool false), .nl, .nl, .nl]) s16 (.here) (Am rfl) rfl (Bs rfl) rfl fun H s17 => ?_
   refine Ad (o' := 15) rfl ?_
   refine Al (c := .sc (.bool p.fWRetain)) s17 D6 rfl ?_
   refine Ad (o' := 15) rfl ?_
   refine B0 (cs' := [.sc (.int .i64 p.fType), .sc (.bool false), .sc (.int .i64 0), .sc (.bool false), .sc (.int .i64 0), .sc (.string (⟨#[]⟩)), .nl, .sc (.string p.fClient), .sc (.int .i64 p.fLevel), .sc (.bool p.fClean), .sc (.int .i64 p.fKeep), .sc (.bool true), .sc (.string p.fWTopic), Ax p.fWBody, .sc (.int .i64 p.fWQos), .sc (.bool p.fWRetain), .sc (.bool false), .sc (.string (⟨#[]⟩)), .sc (.bool false), .nl, .sc (.int .i64 0), .sc (.bool false), .nl, .nl, .nl]) s17 (.here) (Am rfl) rfl (Bs rfl) rfl fun H s18 => ?_
   refine Ad (o' := 16) rfl ?_
   refine Al (c := .sc (.bool p.fHasUser)) s18 D6 rfl ?_
   refine Ac (p.fHasUser) (fun h19 => ?_) (fun h19 => ?_)
   ·refine A0 h19 ?_
    refine Ad (o' := 16) rfl ?_
    refine B0 (cs' := [.sc (.int .i64 p.fType), .sc (.bool false), .sc (.int .i64 0), .sc (.bool false), .sc (.int .i64 0), .sc (.string (⟨#[]⟩)), .nl, .sc (.string p.fClient), .sc (.int .i64 p.fLevel), .sc (.bool p.fClean), .sc (.int .i64 p.fKeep), .sc (.bool true), .sc (.string p.fWTopic), Ax p.fWBody, .sc (.int .i64 p.fWQos), .sc (.bool p.fWRetain), .sc (.bool true), .sc (.string (⟨#[]⟩)), .sc (.bool false), .nl, .sc (.int .i64 0), .sc (.bool false), .nl, .nl, .nl]) s18 (.here) (Am rfl) rfl (Bs rfl) rfl fun H s20 => ?_
    refine Ad (o' := 17) rfl ?_
    refine Al (c := .sc (.string p.fUser)) s20 D6 rfl ?_
    refine Ad (o' := 17) rfl ?_
    refine B0 (cs' := [.sc (.int .i64 p.fType), .sc (.bool false), .sc (.int .i64 0), .sc (.bool false), .sc (.int .i64 0), .sc (.string (⟨#[]⟩)), .nl, .sc (.string p.fClient), .sc (.int .i64 p.fLevel), .sc (.bool p.fClean), .sc (.int .i64 p.fKeep), .sc (.bool true), .sc (.string p.fWTopic), Ax p.fWBody, .sc (.int .i64 p.fWQos), .sc (.bool p.fWRetain), .sc (.bool true), .sc (.string p.fUser), .sc (.bool false), .nl, .sc (.int .i64 0), .sc (.bool false), .nl, .nl, .nl]) s20 (.here) (Am rfl) rfl (Bs rfl) rfl fun H s21 => ?_
    refine Ad (o' := 18) rfl ?_
    refine Al (c := .sc (.bool p.fHasPass)) s21 D6 rfl ?_
    refine Ac (p.fHasPass) (fun h22 => ?_) (fun h22 => ?_)
    ·refine A0 h22 ?_
     refine Ad (o' := 18) rfl ?_
     refine B0 (cs' := [.sc (.int .i64 p.fType), .sc (.bool false), .sc (.int .i64 0), .sc (.bool false), .sc (.int .i64 0), .sc (.string (⟨#[]⟩)), .nl, .sc (.string p.fClient), .sc (.int .i64 p.fLevel), .sc (.bool p.fClean), .sc (.int .i64 p.fKeep), .sc (.bool true), .sc (.string p.fWTopic), Ax p.fWBody, .sc (.int .i64 p.fWQos), .sc (.bool p.fWRetain), .sc (.bool true), .sc (.string p.fUser), .sc (.bool true), .nl, .sc (.int .i64 0), .sc (.bool false), .nl, .nl, .nl]) s21 (.here) (Am rfl) rfl (Bs rfl) rfl fun H s23 => ?_
     refine Ad (o' := 19) rfl ?_
     refine Al (c := Ax p.fPass) s23 D6 rfl ?_
     refine Ad (o' := 19) rfl ?_
     refine B0 (cs' := [.sc (.int .i64 p.fType), .sc (.bool false), .sc (.int .i64 0), .sc (.bool false), .sc (.int .i64 0), .sc (.string (⟨#[]⟩)), .nl, .sc (.string p.fClient), .sc (.int .i64 p.fLevel), .sc (.bool p.fClean), .sc (.int .i64 p.fKeep), .sc (.bool true), .sc (.string p.fWTopic), Ax p.fWBody, .sc (.int .i64 p.fWQos), .sc (.bool p.fWRetain), .sc (.bool true), .sc (.string p.fUser), .sc (.bool true), Ax p.fPass, .sc (.int .i64 0), .sc (.bool false), .nl, .nl, .nl]) s23 (.here) (Am rfl) rfl (Bs rfl) rfl fun H s24 => ?_
     refine Bo s24 (.here) rfl ?_
     refine B0 (cs' := [.sc (.int .i64 p.fType), .sc (.bool false), .sc (.int .i64 0), .sc (.bool false), .sc (.int .i64 0), .sc (.string (⟨#[]⟩)), .nl, .sc (.string p.fClient), .sc (.int .i64 p.fLevel), .sc (.bool p.fClean), .sc (.int .i64 p.fKeep), .sc (.bool true), .sc (.string p.fWTopic), Ax p.fWBody, .sc (.int .i64 p.fWQos), .sc (.bool p.fWRetain), .sc (.bool true), .sc (.string p.fUser), .sc (.bool true), Ax p.fPass, .sc (.int .i64 0), .sc (.bool false), .nl, .nl, .nl]) s24 Id (Bl (Ab rfl (Ab rfl (Ab rfl (Ab rfl (Ab rfl (Ab rfl (Ab rfl (Ab rfl (Ab rfl (Ab rfl (Ab rfl (Ab rfl (Ab rfl (Ab rfl (Ab rfl (Ab rfl (Ab rfl (Ab rfl (Ab rfl (Ab rfl (Ab rfl (Ab rfl (Ab rfl (Ab rfl (Ab rfl rfl)))))))))))))))))))))))))) rfl (Bs rfl) rfl fun H s25 => ?_
     refine Bo s25 (.here) rfl ?_
     have e : Aq true p = (⟨p.fType, false, 0, false, 0, ⟨#[]⟩, ⟨#[]⟩, p.fClient, p.fLevel, p.fClean, p.fKeep, true, p.fWTopic, p.fWBody, p.fWQos, p.fWRetain, true, p.fUser, true, p.fPass, 0, false, [], [], []⟩ : Ar) := by
      clear hk s0 s2 s4 s6 s7 s9 s10 s11 s12 s14 s15 s16 s17 s18 s20 s21 s23 s24 s25
      simp only [decide_eq_true_eq, decide_eq_false_iff_not] at h8 h13 h19 h22
      simp [Aq, Ct, Cs, Dn, h8, h13, h19, h22]
     rw [e] at hk
     exact hk _ _ (fun L' => (.cons .sc (.cons .sc (.cons .sc (.cons .sc (.cons .sc (.cons .sc (.cons .nl (.cons .sc (.cons .sc (.cons .sc (.cons .sc (.cons .sc (.cons .sc (.cons .ro (.cons .sc (.cons .sc (.cons .sc (.cons .sc (.cons .sc (.cons .ro (.cons .sc (.cons .sc (.cons .nl (.cons .nl (.cons .nl .nil)))))))))))))))))))))))))) s25.tail.tail.tail
    ·refine Bf h22 ?_
     refine Bo s21 (.here) rfl ?_
     refine B0 (cs' := [.sc (.int .i64 p.fType), .sc (.bool false), .sc (.int .i64 0), .sc (.bool false), .sc (.int .i64 0), .sc (.string (⟨#[]⟩)), .nl, .sc (.string p.fClient), .sc (.int .i64 p.fLevel), .sc (.bool p.fClean), .sc (.int .i64 p.fKeep), .sc (.bool true), .sc (.string p.fWTopic), Ax p.fWBody, .sc (.int .i64 p.fWQos), .sc (.bool p.fWRetain), .sc (.bool true), .sc (.string p.fUser), .sc (.bool false), .nl, .sc (.int .i64 0), .sc (.bool false), .nl, .nl, .nl]) s21 Id (Bl (Ab rfl (Ab rfl (Ab rfl (Ab rfl (Ab rfl (Ab rfl (Ab rfl (Ab rfl (Ab rfl (Ab rfl (Ab rfl (Ab rfl (Ab rfl (Ab rfl (Ab rfl (Ab rfl (Ab rfl (Ab rfl (Ab rfl (Ab rfl (Ab rfl (Ab rfl (Ab rfl (Ab rfl (Ab rfl rfl)))))))))))))))))))))))))) rfl (Bs rfl) rfl fun H s26 => ?_
     refine Bo s26 (.here) rfl ?_
     have e : Aq true p = (⟨p.fType, false, 0, false, 0, ⟨#[]⟩, ⟨#[]⟩, p.fClient, p.fLevel, p.fClean, p.fKeep, true, p.fWTopic, p.fWBody, p.fWQos, p.fWRetain, true, p.fUser, false, ⟨#[]⟩, 0, false, [], [], []⟩ : Ar) := by
      clear hk s0 s2 s4 s6 s7 s9 s10 s11 s12 s14 s15 s16 s17 s18 s20 s21 s26
      simp only [decide_eq_true_eq, decide_eq_false_iff_not] at h8 h13 h19 h22
      simp [Aq, Ct, Cs, Dn, h8, h13, h19, h22]
     rw [e] at hk
     exact hk _ _ (fun L' => (.cons .sc (.cons .sc (.cons .sc (.cons .sc (.cons .sc (.cons .sc (.cons .nl (.cons .sc (.cons .sc (.cons .sc (.cons .sc (.cons .sc (.cons .sc (.cons .ro (.cons .sc (.cons .sc (.cons .sc (.cons .sc (.cons .sc (.cons .nl (.cons .sc (.cons .sc (.cons .nl (.cons .nl (.cons .nl .nil)))))))))))))))))))))))))) s26.tail.tail.tail
   ·refine Bf h19 ?_
    refine Bo s18 (.here) rfl ?_
    refine B0 (cs' := [.sc (.int .i64 p.fType), .sc (.bool false), .sc (.int .i64 0), .sc (.bool false), .sc (.int .i64 0), .sc (.string (⟨#[]⟩)), .nl, .sc (.string p.fClient), .sc (.int .i64 p.fLevel), .sc (.bool p.fClean), .sc (.int .i64 p.fKeep), .sc (.bool true), .sc (.string p.fWTopic), Ax p.fWBody, .sc (.int .i64 p.fWQos), .sc (.bool p.fWRetain), .sc (.bool false), .sc (.string (⟨#[]⟩)), .sc (.bool false), .nl, .sc (.int .i64 0), .sc (.bool false), .nl, .nl, .nl]) s18 Id (Bl (Ab rfl (Ab rfl (Ab rfl (Ab rfl (Ab rfl (Ab rfl (Ab rfl (Ab rfl (Ab rfl (Ab rfl (Ab rfl (Ab rfl (Ab rfl (Ab rfl (Ab rfl (Ab rfl (Ab rfl (Ab rfl (Ab rfl (Ab rfl (Ab rfl (Ab rfl (Ab rfl (Ab rfl (Ab rfl rfl)))))))))))))))))))))))))) rfl (Bs rfl) rfl fun H s27 => ?_
    refine Bo s27 (.here) rfl ?_
    have e : Aq true p = (⟨p.fType, false, 0, false, 0, ⟨#[]⟩, ⟨#[]⟩, p.fClient, p.fLevel, p.fClean, p.fKeep, true, p.fWTopic, p.fWBody, p.fWQos, p.fWRetain, false, ⟨#[]⟩, false, ⟨#[]⟩, 0, false, [], [], []⟩ : Ar) := by
     clear hk s0 s2 s4 s6 s7 s9 s10 s11 s12 s14 s15 s16 s17 s18 s27
     simp only [decide_eq_true_eq, decide_eq_false_iff_not] at h8 h13 h19
     simp [Aq, Ct, Cs, Dn, h8, h13, h19]
    rw [e] at hk
    exact hk _ _ (fun L' => (.cons .sc (.cons .sc (.cons .sc (.cons .sc (.cons .sc (.cons .sc (.cons .nl (.cons .sc (.cons .sc (.cons .sc (.cons .sc (.cons .sc (.cons .sc (.cons .ro (.cons .sc (.cons .sc (.cons .sc (.cons .sc (.cons .sc (.cons .nl (.cons .sc (.cons .sc (.cons .nl (.cons .nl (.cons .nl .nil)))))))))))))))))))))))))) s27.tail.tail.tail
  ·refine Bf h13 ?_
   refine Ad (o' := 16) rfl ?_
   refine Al (c := .sc (.bool p.fHasUser)) s12 D6 rfl ?_
   refine Ac (p.fHasUser) (fun h28 => ?_) (fun h28 => ?_)
   ·refine A0 h28 ?_
    refine Ad (o' := 16) rfl ?_
    refine B0 (cs' := [.sc (.int .i64 p.fType), .sc (.bool false), .sc (.int .i64 0), .sc (.bool false), .sc (.int .i64 0), .sc (.string (⟨#[]⟩)), .nl, .sc (.string p.fClient), .sc (.int .i64 p.fLevel), .sc (.bool p.fClean), .sc (.int .i64 p.fKeep), .sc (.bool false), .sc (.string (⟨#[]⟩)), .nl, .sc (.int .i64 0), .sc (.bool false), .sc (.bool true), .sc (.string (⟨#[]⟩)), .sc (.bool false), .nl, .sc (.int .i64 0), .sc (.bool false), .nl, .nl, .nl]) s12 (.here) (Am rfl) rfl (Bs rfl) rfl fun H s29 => ?_
    refine Ad (o' := 17) rfl ?_
    refine Al (c := .sc (.string p.fUser)) s29 D6 rfl ?_
    refine Ad (o' := 17) rfl ?_
    refine B0 (cs' := [.sc (.int .i64 p.fType), .sc (.bool false), .sc (.int .i64 0), .sc (.bool false), .sc (.int .i64 0), .sc (.string (⟨#[]⟩)), .nl, .sc (.string p.fClient), .sc (.int .i64 p.fLevel), .sc (.bool p.fClean), .sc (.int .i64 p.fKeep), .sc (.bool false), .sc (.string (⟨#[]⟩)), .nl, .sc (.int .i64 0), .sc (.bool false), .sc (.bool true), .sc (.string p.fUser), .sc (.bool false), .nl, .sc (.int .i64 0), .sc (.bool false), .nl, .nl, .nl]) s29 (.here) (Am rfl) rfl (Bs rfl) rfl fun H s30 => ?_
    refine Ad (o' := 18) rfl ?_
    refine Al (c := .sc (.bool p.fHasPass)) s30 D6 rfl ?_
    refine Ac (p.fHasPass) (fun h31 => ?_) (fun h31 => ?_)
    ·refine A0 h31 ?_
     refine Ad (o' := 18) rfl ?_
     refine B0 (cs' := [.sc (.int .i64 p.fType), .sc (.bool false), .sc (.int .i64 0), .sc (.bool false), .sc (.int .i64 0), .sc (.string (⟨#[]⟩)), .nl, .sc (.string p.fClient), .sc (.int .i64 p.fLevel), .sc (.bool p.fClean), .sc (.int .i64 p.fKeep), .sc (.bool false), .sc (.string (⟨#[]⟩)), .nl, .sc (.int .i64 0), .sc (.bool false), .sc (.bool true), .sc (.string p.fUser), .sc (.bool true), .nl, .sc (.int .i64 0), .sc (.bool false), .nl, .nl, .nl]) s30 (.here) (Am rfl) rfl (Bs rfl) rfl fun H s32 => ?_
     refine Ad (o' := 19) rfl ?_
     refine Al (c := Ax p.fPass) s32 D6 rfl ?_
     refine Ad (o' := 19) rfl ?_
     refine B0 (cs' := [.sc (.int .i64 p.fType), .sc (.bool false), .sc (.int .i64 0), .sc (.bool false), .sc (.int .i64 0), .sc (.string (⟨#[]⟩)), .nl, .sc (.string p.fClient), .sc (.int .i64 p.fLevel), .sc (.bool p.fClean), .sc (.int .i64 p.fKeep), .sc (.bool false), .sc (.string (⟨#[]⟩)), .nl, .sc (.int .i64 0), .sc (.bool false), .sc (.bool true), .sc (.string p.fUser), .sc (.bool true), Ax p.fPass, .sc (.int .i64 0), .sc (.bool false), .nl, .nl, .nl]) s32 (.here) (Am rfl) rfl (Bs rfl) rfl fun H s33 => ?_
     refine Bo s33 (.here) rfl ?_
     refine B0 (cs' := [.sc (.int .i64 p.fType), .sc (.bool false), .sc (.int .i64 0), .sc (.bool false), .sc (.int .i64 0), .sc (.string (⟨#[]⟩)), .nl, .sc (.string p.fClient), .sc (.int .i64 p.fLevel), .sc (.bool p.fClean), .sc (.int .i64 p.fKeep), .sc (.bool false), .sc (.string (⟨#[]⟩)), .nl, .sc (.int .i64 0), .sc (.bool false), .sc (.bool true), .sc (.string p.fUser), .sc (.bool true), Ax p.fPass, .sc (.int .i64 0), .sc (.bool false), .nl, .nl, .nl]) s33 Id (Bl (Ab rfl (Ab rfl (Ab rfl (Ab rfl (Ab rfl (Ab rfl (Ab rfl (Ab rfl (Ab rfl (Ab rfl (Ab rfl (Ab rfl (Ab rfl (Ab rfl (Ab rfl (Ab rfl (Ab rfl (Ab rfl (Ab rfl (Ab rfl (Ab rfl (Ab rfl (Ab rfl (Ab rfl (Ab rfl rfl)))))))))))))))))))))))))) rfl (Bs rfl) rfl fun H s34 => ?_
     refine Bo s34 (.here) rfl ?_
     have e : Aq true p = (⟨p.fType, false, 0, false, 0, ⟨#[]⟩, ⟨#[]⟩, p.fClient, p.fLevel, p.fClean, p.fKeep, false, ⟨#[]⟩, ⟨#[]⟩, 0, false, true, p.fUser, true, p.fPass, 0, false, [], [], []⟩ : Ar) := by
      clear hk s0 s2 s4 s6 s7 s9 s10 s11 s12 s29 s30 s32 s33 s34
      simp only [decide_eq_true_eq, decide_eq_false_iff_not] at h8 h13 h28 h31
      simp [Aq, Ct, Cs, Dn, h8, h13, h28, h31]
     rw [e] at hk
     exact hk _ _ (fun L' => (.cons .sc (.cons .sc (.cons .sc (.cons .sc (.cons .sc (.cons .sc (.cons .nl (.cons .sc (.cons .sc (.cons .sc (.cons .sc (.cons .sc (.cons .sc (.cons .nl (.cons .sc (.cons .sc (.cons .sc (.cons .sc (.cons .sc (.cons .ro (.cons .sc (.cons .sc (.cons .nl (.cons .nl (.cons .nl .nil)))))))))))))))))))))))))) s34.tail.tail.tail
    ·refine Bf h31 ?_
     refine Bo s30 (.here) rfl ?_
     refine B0 (cs' := [.sc (.int .i64 p.fType), .sc (.bool false), .sc (.int .i64 0), .sc (.bool false), .sc (.int .i64 0), .sc (.string (⟨#[]⟩)), .nl, .sc (.string p.fClient), .sc (.int .i64 p.fLevel), .sc (.bool p.fClean), .sc (.int .i64 p.fKeep), .sc (.bool false), .sc (.string (⟨#[]⟩)), .nl, .sc (.int .i64 0), .sc (.bool false), .sc (.bool true), .sc (.string p.fUser), .sc (.bool false), .nl, .sc (.int .i64 0), .sc (.bool false), .nl, .nl, .nl]) s30 Id (Bl (Ab rfl (Ab rfl (Ab rfl (Ab rfl (Ab rfl (Ab rfl (Ab rfl (Ab rfl (Ab rfl (Ab rfl (Ab rfl (Ab rfl (Ab rfl (Ab rfl (Ab rfl (Ab rfl (Ab rfl (Ab rfl (Ab rfl (Ab rfl (Ab rfl (Ab rfl (Ab rfl (Ab rfl (Ab rfl rfl)))))))))))))))))))))))))) rfl (Bs rfl) rfl fun H s35 => ?_
     refine Bo s35 (.here) rfl ?_
     have e : Aq true p = (⟨p.fType, false, 0, false, 0, ⟨#[]⟩, ⟨#[]⟩, p.fClient, p.fLevel, p.fClean, p.fKeep, false, ⟨#[]⟩, ⟨#[]⟩, 0, false, true, p.fUser, false, ⟨#[]⟩, 0, false, [], [], []⟩ : Ar) := by
      clear hk s0 s2 s4 s6 s7 s9 s10 s11 s12 s29 s30 s35
      simp only [decide_eq_true_eq, decide_eq_false_iff_not] at h8 h13 h28 h31
      simp [Aq, Ct, Cs, Dn, h8, h13, h28, h31]
     rw [e] at hk
     exact hk _ _ (fun L' => (.cons .sc (.cons .sc (.cons .sc (.cons .sc (.cons .sc (.cons .sc (.cons .nl (.cons .sc (.cons .sc (.cons .sc (.cons .sc (.cons .sc (.cons .sc (.cons .nl (.cons .sc (.cons .sc (.cons .sc (.cons .sc (.cons .sc (.cons .nl (.cons .sc (.cons .sc (.cons .nl (.cons .nl (.cons .nl .nil)))))))))))))))))))))))))) s35.tail.tail.tail
   ·refine Bf h28 ?_
    refine Bo s12 (.here) rfl ?_
    refine B0 (cs' := [.sc (.int .i64 p.fType), .sc (.bool false), .sc (.int .i64 0), .sc (.bool false), .sc (.int .i64 0), .sc (.string (⟨#[]⟩)), .nl, .sc (.string p.fClient), .sc (.int .i64 p.fLevel), .sc (.bool p.fClean), .sc (.int .i64 p.fKeep), .sc (.bool false), .sc (.string (⟨#[]⟩)), .nl, .sc (.int .i64 0), .sc (.bool false), .sc (.bool false), .sc (.string (⟨#[]⟩)), .sc (.bool false), .nl, .sc (.int .i64 0), .sc (.bool false), .nl, .nl, .nl]) s12 Id (Bl (Ab rfl (Ab rfl (Ab rfl (Ab rfl (Ab rfl (Ab rfl (Ab rfl (Ab rfl (Ab rfl (Ab rfl (Ab rfl (Ab rfl (Ab rfl (Ab rfl (Ab rfl (Ab rfl (Ab rfl (Ab rfl (Ab rfl (Ab rfl (Ab rfl (Ab rfl (Ab rfl (Ab rfl (Ab rfl rfl)))))))))))))))))))))))))) rfl (Bs rfl) rfl fun H s36 => ?_
    refine Bo s36 (.here) rfl ?_
    have e : Aq true p = (⟨p.fType, false, 0, false, 0, ⟨#[]⟩, ⟨#[]⟩, p.fClient, p.fLevel, p.fClean, p.fKeep, false, ⟨#[]⟩, ⟨#[]⟩, 0, false, false, ⟨#[]⟩, false, ⟨#[]⟩, 0, false, [], [], []⟩ : Ar) := by
     clear hk s0 s2 s4 s6 s7 s9 s10 s11 s12 s36
     simp only [decide_eq_true_eq, decide_eq_false_iff_not] at h8 h13 h28
     simp [Aq, Ct, Cs, Dn, h8, h13, h28]
    rw [e] at hk
    exact hk _ _ (fun L' => (.cons .sc (.cons .sc (.cons .sc (.cons .sc (.cons .sc (.cons .sc (.cons .nl (.cons .sc (.cons .sc (.cons .sc (.cons .sc (.cons .sc (.cons .sc (.cons .nl (.cons .sc (.cons .sc (.cons .sc (.cons .sc (.cons .sc (.cons .nl (.cons .sc (.cons .sc (.cons .nl (.cons .nl (.cons .nl .nil)))))))))))))))))))))))))) s36.tail.tail.tail
 ·refine Bf h8 ?_
  refine Au ?_
  refine Ac ((decide (p.fType = 2))) (fun h37 => ?_) (fun h37 => ?_)
  ·refine A0 h37 ?_
   refine Ad (o' := 20) rfl ?_
   refine Al (c := .sc (.int .i64 p.fCode)) s7 D6 rfl ?_
   refine Ad (o' := 20) rfl ?_
   refine B0 (cs' := [.sc (.int .i64 p.fType), .sc (.bool false), .sc (.int .i64 0), .sc (.bool false), .sc (.int .i64 0), .sc (.string (⟨#[]⟩)), .nl, .sc (.string (⟨#[]⟩)), .sc (.int .i64 0), .sc (.bool false), .sc (.int .i64 0), .sc (.bool false), .sc (.string (⟨#[]⟩)), .nl, .sc (.int .i64 0), .sc (.bool false), .sc (.bool false), .sc (.string (⟨#[]⟩)), .sc (.bool false), .nl, .sc (.int .i64 p.fCode), .sc (.bool false), .nl, .nl, .nl]) s7 (.here) (Am rfl) rfl (Bs rfl) rfl fun H s38 => ?_
   refine Ad (o' := 21) rfl ?_
   refine Al (c := .sc (.bool p.fPresent)) s38 D6 rfl ?_
   refine Ac (p.fPresent) (fun h39 => ?_) (fun h39 => ?_)
   ·refine Ae h39 ?_
    refine Ad (o' := 20) rfl ?_
    refine Ae h39 ?_
    refine Al (c := .sc (.int .i64 p.fCode)) s38 D6 rfl ?_
    refine Ae h39 ?_
    refine Au ?_
    refine Bj h39 ?_
    refine Ad (o' := 21) rfl ?_
    refine B0 (cs' := [.sc (.int .i64 p.fType), .sc (.bool false), .sc (.int .i64 0), .sc (.bool false), .sc (.int .i64 0), .sc (.string (⟨#[]⟩)), .nl, .sc (.string (⟨#[]⟩)), .sc (.int .i64 0), .sc (.bool false), .sc (.int .i64 0), .sc (.bool false), .sc (.string (⟨#[]⟩)), .nl, .sc (.int .i64 0), .sc (.bool false), .sc (.bool false), .sc (.string (⟨#[]⟩)), .sc (.bool false), .nl, .sc (.int .i64 p.fCode), .sc (.bool (decide (p.fCode = 0))), .nl, .nl, .nl]) s38 (.here) (Am rfl) rfl (Bs rfl) rfl fun H s40 => ?_
    refine Bo s40 (.here) rfl ?_
    refine B0 (cs' := [.sc (.int .i64 p.fType), .sc (.bool false), .sc (.int .i64 0), .sc (.bool false), .sc (.int .i64 0), .sc (.string (⟨#[]⟩)), .nl, .sc (.string (⟨#[]⟩)), .sc (.int .i64 0), .sc (.bool false), .sc (.int .i64 0), .sc (.bool false), .sc (.string (⟨#[]⟩)), .nl, .sc (.int .i64 0), .sc (.bool false), .sc (.bool false), .sc (.string (⟨#[]⟩)), .sc (.bool false), .nl, .sc (.int .i64 p.fCode), .sc (.bool (decide (p.fCode = 0))), .nl, .nl, .nl]) s40 Id (Bl (Ab rfl (Ab rfl (Ab rfl (Ab rfl (Ab rfl (Ab rfl (Ab rfl (Ab rfl (Ab rfl (Ab rfl (Ab rfl (Ab rfl (Ab rfl (Ab rfl (Ab rfl (Ab rfl (Ab rfl (Ab rfl (Ab rfl (Ab rfl (Ab rfl (Ab rfl (Ab rfl (Ab rfl (Ab rfl rfl)))))))))))))))))))))))))) rfl (Bs rfl) rfl fun H s41 => ?_
    refine Bo s41 (.here) rfl ?_
    have e : Aq true p = (⟨p.fType, false, 0, false, 0, ⟨#[]⟩, ⟨#[]⟩, ⟨#[]⟩, 0, false, 0, false, ⟨#[]⟩, ⟨#[]⟩, 0, false, false, ⟨#[]⟩, false, ⟨#[]⟩, p.fCode, (decide (p.fCode = 0)), [], [], []⟩ : Ar) := by
     clear hk s0 s2 s4 s6 s7 s38 s40 s41
     simp only [decide_eq_true_eq, decide_eq_false_iff_not] at h8 h37 h39
     simp [Aq, Ct, Cs, Dn, h8, h37, h39]
    rw [e] at hk
    exact hk _ _ (fun L' => (.cons .sc (.cons .sc (.cons .sc (.cons .sc (.cons .sc (.cons .sc (.cons .nl (.cons .sc (.cons .sc (.cons .sc (.cons .sc (.cons .sc (.cons .sc (.cons .nl (.cons .sc (.cons .sc (.cons .sc (.cons .sc (.cons .sc (.cons .nl (.cons .sc (.cons .sc (.cons .nl (.cons .nl (.cons .nl .nil)))))))))))))))))))))))))) s41.tail.tail.tail
   ·refine Aa h39 ?_
    refine Aa h39 ?_
    refine Aa h39 ?_
    refine An h39 ?_
    refine Ad (o' := 21) rfl ?_
    refine B0 (cs' := [.sc (.int .i64 p.fType), .sc (.bool false), .sc (.int .i64 0), .sc (.bool false), .sc (.int .i64 0), .sc (.string (⟨#[]⟩)), .nl, .sc (.string (⟨#[]⟩)), .sc (.int .i64 0), .sc (.bool false), .sc (.int .i64 0), .sc (.bool false), .sc (.string (⟨#[]⟩)), .nl, .sc (.int .i64 0), .sc (.bool false), .sc (.bool false), .sc (.string (⟨#[]⟩)), .sc (.bool false), .nl, .sc (.int .i64 p.fCode), .sc (.bool false), .nl, .nl, .nl]) s38 (.here) (Am rfl) rfl (Bs rfl) rfl fun H s42 => ?_
    refine Bo s42 (.here) rfl ?_
    refine B0 (cs' := [.sc (.int .i64 p.fType), .sc (.bool false), .sc (.int .i64 0), .sc (.bool false), .sc (.int .i64 0), .sc (.string (⟨#[]⟩)), .nl, .sc (.string (⟨#[]⟩)), .sc (.int .i64 0), .sc (.bool false), .sc (.int .i64 0), .sc (.bool false), .sc (.string (⟨#[]⟩)), .nl, .sc (.int .i64 0), .sc (.bool false), .sc (.bool false), .sc (.string (⟨#[]⟩)), .sc (.bool false), .nl, .sc (.int .i64 p.fCode), .sc (.bool false), .nl, .nl, .nl]) s42 Id (Bl (Ab rfl (Ab rfl (Ab rfl (Ab rfl (Ab rfl (Ab rfl (Ab rfl (Ab rfl (Ab rfl (Ab rfl (Ab rfl (Ab rfl (Ab rfl (Ab rfl (Ab rfl (Ab rfl (Ab rfl (Ab rfl (Ab rfl (Ab rfl (Ab rfl (Ab rfl (Ab rfl (Ab rfl (Ab rfl rfl)))))))))))))))))))))))))) rfl (Bs rfl) rfl fun H s43 => ?_
    refine Bo s43 (.here) rfl ?_
    have e : Aq true p = (⟨p.fType, false, 0, false, 0, ⟨#[]⟩, ⟨#[]⟩, ⟨#[]⟩, 0, false, 0, false, ⟨#[]⟩, ⟨#[]⟩, 0, false, false, ⟨#[]⟩, false, ⟨#[]⟩, p.fCode, false, [], [], []⟩ : Ar) := by
     clear hk s0 s2 s4 s6 s7 s38 s42 s43
     simp only [decide_eq_true_eq, decide_eq_false_iff_not] at h8 h37 h39
     simp [Aq, Ct, Cs, Dn, h8, h37, h39]
    rw [e] at hk
    exact hk _ _ (fun L' => (.cons .sc (.cons .sc (.cons .sc (.cons .sc (.cons .sc (.cons .sc (.cons .nl (.cons .sc (.cons .sc (.cons .sc (.cons .sc (.cons .sc (.cons .sc (.cons .nl (.cons .sc (.cons .sc (.cons .sc (.cons .sc (.cons .sc (.cons .nl (.cons .sc (.cons .sc (.cons .nl (.cons .nl (.cons .nl .nil)))))))))))))))))))))))))) s43.tail.tail.tail
  ·refine Bf h37 ?_
   refine Au ?_
   refine Ac ((decide (p.fType = 3))) (fun h44 => ?_) (fun h44 => ?_)
   ·refine A0 h44 ?_
    refine Ad (o' := 2) rfl ?_
    refine Al (c := .sc (.int .i64 p.fQos)) s7 D6 rfl ?_
    refine Ad (o' := 2) rfl ?_
    refine B0 (cs' := [.sc (.int .i64 p.fType), .sc (.bool false), .sc (.int .i64 p.fQos), .sc (.bool false), .sc (.int .i64 0), .sc (.string (⟨#[]⟩)), .nl, .sc (.string (⟨#[]⟩)), .sc (.int .i64 0), .sc (.bool false), .sc (.int .i64 0), .sc (.bool false), .sc (.string (⟨#[]⟩)), .nl, .sc (.int .i64 0), .sc (.bool false), .sc (.bool false), .sc (.string (⟨#[]⟩)), .sc (.bool false), .nl, .sc (.int .i64 0), .sc (.bool false), .nl, .nl, .nl]) s7 (.here) (Am rfl) rfl (Bs rfl) rfl fun H s45 => ?_
    refine Ad (o' := 3) rfl ?_
    refine Al (c := .sc (.bool p.fRetain)) s45 D6 rfl ?_
    refine Ad (o' := 3) rfl ?_
    refine B0 (cs' := [.sc (.int .i64 p.fType), .sc (.bool false), .sc (.int .i64 p.fQos), .sc (.bool p.fRetain), .sc (.int .i64 0), .sc (.string (⟨#[]⟩)), .nl, .sc (.string (⟨#[]⟩)), .sc (.int .i64 0), .sc (.bool false), .sc (.int .i64 0), .sc (.bool false), .sc (.string (⟨#[]⟩)), .nl, .sc (.int .i64 0), .sc (.bool false), .sc (.bool false), .sc (.string (⟨#[]⟩)), .sc (.bool false), .nl, .sc (.int .i64 0), .sc (.bool false), .nl, .nl, .nl]) s45 (.here) (Am rfl) rfl (Bs rfl) rfl fun H s46 => ?_
    refine Ad (o' := 5) rfl ?_
    refine Al (c := .sc (.string p.fTopic)) s46 D6 rfl ?_
    refine Ad (o' := 5) rfl ?_
    refine B0 (cs' := [.sc (.int .i64 p.fType), .sc (.bool false), .sc (.int .i64 p.fQos), .sc (.bool p.fRetain), .sc (.int .i64 0), .sc (.string p.fTopic), .nl, .sc (.string (⟨#[]⟩)), .sc (.int .i64 0), .sc (.bool false), .sc (.int .i64 0), .sc (.bool false), .sc (.string (⟨#[]⟩)), .nl, .sc (.int .i64 0), .sc (.bool false), .sc (.bool false), .sc (.string (⟨#[]⟩)), .sc (.bool false), .nl, .sc (.int .i64 0), .sc (.bool false), .nl, .nl, .nl]) s46 (.here) (Am rfl) rfl (Bs rfl) rfl fun H s47 => ?_
    refine Ad (o' := 6) rfl ?_
    refine Al (c := Ax p.fBody) s47 D6 rfl ?_
    refine Ad (o' := 6) rfl ?_
    refine B0 (cs' := [.sc (.int .i64 p.fType), .sc (.bool false), .sc (.int .i64 p.fQos), .sc (.bool p.fRetain), .sc (.int .i64 0), .sc (.string p.fTopic), Ax p.fBody, .sc (.string (⟨#[]⟩)), .sc (.int .i64 0), .sc (.bool false), .sc (.int .i64 0), .sc (.bool false), .sc (.string (⟨#[]⟩)), .nl, .sc (.int .i64 0), .sc (.bool false), .sc (.bool false), .sc (.string (⟨#[]⟩)), .sc (.bool false), .nl, .sc (.int .i64 0), .sc (.bool false), .nl, .nl, .nl]) s47 (.here) (Am rfl) rfl (Bs rfl) rfl fun H s48 => ?_
    refine Ad (o' := 2) rfl ?_
    refine Al (c := .sc (.int .i64 p.fQos)) s48 D6 rfl ?_
    refine Pt ?_
    refine Ac ((decide (0 < p.fQos))) (fun h49 => ?_) (fun h49 => ?_)
    ·refine A0 h49 ?_
     refine Ad (o' := 1) rfl ?_
     refine Al (c := .sc (.bool p.fDup)) s48 D6 rfl ?_
     refine Ad (o' := 1) rfl ?_
     refine B0 (cs' := [.sc (.int .i64 p.fType), .sc (.bool p.fDup), .sc (.int .i64 p.fQos), .sc (.bool p.fRetain), .sc (.int .i64 0), .sc (.string p.fTopic), Ax p.fBody, .sc (.string (⟨#[]⟩)), .sc (.int .i64 0), .sc (.bool false), .sc (.int .i64 0), .sc (.bool false), .sc (.string (⟨#[]⟩)), .nl, .sc (.int .i64 0), .sc (.bool false), .sc (.bool false), .sc (.string (⟨#[]⟩)), .sc (.bool false), .nl, .sc (.int .i64 0), .sc (.bool false), .nl, .nl, .nl]) s48 (.here) (Am rfl) rfl (Bs rfl) rfl fun H s50 => ?_
     refine Ad (o' := 4) rfl ?_
     refine Al (c := .sc (.int .i64 p.fId)) s50 D6 rfl ?_
     refine Ad (o' := 4) rfl ?_
     refine B0 (cs' := [.sc (.int .i64 p.fType), .sc (.bool p.fDup), .sc (.int .i64 p.fQos), .sc (.bool p.fRetain), .sc (.int .i64 p.fId), .sc (.string p.fTopic), Ax p.fBody, .sc (.string (⟨#[]⟩)), .sc (.int .i64 0), .sc (.bool false), .sc (.int .i64 0), .sc (.bool false), .sc (.string (⟨#[]⟩)), .nl, .sc (.int .i64 0), .sc (.bool false), .sc (.bool false), .sc (.string (⟨#[]⟩)), .sc (.bool false), .nl, .sc (.int .i64 0), .sc (.bool false), .nl, .nl, .nl]) s50 (.here) (Am rfl) rfl (Bs rfl) rfl fun H s51 => ?_
     refine Bo s51 (.here) rfl ?_
     refine B0 (cs' := [.sc (.int .i64 p.fType), .sc (.bool p.fDup), .sc (.int .i64 p.fQos), .sc (.bool p.fRetain), .sc (.int .i64 p.fId), .sc (.string p.fTopic), Ax p.fBody, .sc (.string (⟨#[]⟩)), .sc (.int .i64 0), .sc (.bool false), .sc (.int .i64 0), .sc (.bool false), .sc (.string (⟨#[]⟩)), .nl, .sc (.int .i64 0), .sc (.bool false), .sc (.bool false), .sc (.string (⟨#[]⟩)), .sc (.bool false), .nl, .sc (.int .i64 0), .sc (.bool false), .nl, .nl, .nl]) s51 Id (Bl (Ab rfl (Ab rfl (Ab rfl (Ab rfl (Ab rfl (Ab rfl (Ab rfl (Ab rfl (Ab rfl (Ab rfl (Ab rfl (Ab rfl (Ab rfl (Ab rfl (Ab rfl (Ab rfl (Ab rfl (Ab rfl (Ab rfl (Ab rfl (Ab rfl (Ab rfl (Ab rfl (Ab rfl (Ab rfl rfl)))))))))))))))))))))))))) rfl (Bs rfl) rfl fun H s52 => ?_
     refine Bo s52 (.here) rfl ?_
     have e : Aq true p = (⟨p.fType, p.fDup, p.fQos, p.fRetain, p.fId, p.fTopic, p.fBody, ⟨#[]⟩, 0, false, 0, false, ⟨#[]⟩, ⟨#[]⟩, 0, false, false, ⟨#[]⟩, false, ⟨#[]⟩, 0, false, [], [], []⟩ : Ar) := by
      clear hk s0 s2 s4 s6 s7 s45 s46 s47 s48 s50 s51 s52
      simp only [decide_eq_true_eq, decide_eq_false_iff_not] at h8 h37 h44 h49
      simp [Aq, Ct, Cs, Dn, h8, h37, h44, h49]
     rw [e] at hk
     exact hk _ _ (fun L' => (.cons .sc (.cons .sc (.cons .sc (.cons .sc (.cons .sc (.cons .sc (.cons .ro (.cons .sc (.cons .sc (.cons .sc (.cons .sc (.cons .sc (.cons .sc (.cons .nl (.cons .sc (.cons .sc (.cons .sc (.cons .sc (.cons .sc (.cons .nl (.cons .sc (.cons .sc (.cons .nl (.cons .nl (.cons .nl .nil)))))))))))))))))))))))))) s52.tail.tail.tail
    ·refine Bf h49 ?_
     refine Bo s48 (.here) rfl ?_
     refine B0 (cs' := [.sc (.int .i64 p.fType), .sc (.bool false), .sc (.int .i64 p.fQos), .sc (.bool p.fRetain), .sc (.int .i64 0), .sc (.string p.fTopic), Ax p.fBody, .sc (.string (⟨#[]⟩)), .sc (.int .i64 0), .sc (.bool false), .sc (.int .i64 0), .sc (.bool false), .sc (.string (⟨#[]⟩)), .nl, .sc (.int .i64 0), .sc (.bool false), .sc (.bool false), .sc (.string (⟨#[]⟩)), .sc (.bool false), .nl, .sc (.int .i64 0), .sc (.bool false), .nl, .nl, .nl]) s48 Id (Bl (Ab rfl (Ab rfl (Ab rfl (Ab rfl (Ab rfl (Ab rfl (Ab rfl (Ab rfl (Ab rfl (Ab rfl (Ab rfl (Ab rfl (Ab rfl (Ab rfl (Ab rfl (Ab rfl (Ab rfl (Ab rfl (Ab rfl (Ab rfl (Ab rfl (Ab rfl (Ab rfl (Ab rfl (Ab rfl rfl)))))))))))))))))))))))))) rfl (Bs rfl) rfl fun H s53 => ?_
     refine Bo s53 (.here) rfl ?_
     have e : Aq true p = (⟨p.fType, false, p.fQos, p.fRetain, 0, p.fTopic, p.fBody, ⟨#[]⟩, 0, false, 0, false, ⟨#[]⟩, ⟨#[]⟩, 0, false, false, ⟨#[]⟩, false, ⟨#[]⟩, 0, false, [], [], []⟩ : Ar) := by
      clear hk s0 s2 s4 s6 s7 s45 s46 s47 s48 s53
      simp only [decide_eq_true_eq, decide_eq_false_iff_not] at h8 h37 h44 h49
      simp [Aq, Ct, Cs, Dn, h8, h37, h44, h49]
     rw [e] at hk
     exact hk _ _ (fun L' => (.cons .sc (.cons .sc (.cons .sc (.cons .sc (.cons .sc (.cons .sc (.cons .ro (.cons .sc (.cons .sc (.cons .sc (.cons .sc (.cons .sc (.cons .sc (.cons .nl (.cons .sc (.cons .sc (.cons .sc (.cons .sc (.cons .sc (.cons .nl (.cons .sc (.cons .sc (.cons .nl (.cons .nl (.cons .nl .nil)))))))))))))))))))))))))) s53.tail.tail.tail
   ·refine Bf h44 ?_
    refine Au ?_
    refine Fm ?_
    refine Ac ((decide (p.fType = 4))) (fun h54 => ?_) (fun h54 => ?_)
    ·refine A0 h54 ?_
     refine A0 h54 ?_
     refine Ad (o' := 4) rfl ?_
     refine Al (c := .sc (.int .i64 p.fId)) s7 D6 rfl ?_
     refine Ad (o' := 4) rfl ?_
     refine B0 (cs' := [.sc (.int .i64 p.fType), .sc (.bool false), .sc (.int .i64 0), .sc (.bool false), .sc (.int .i64 p.fId), .sc (.string (⟨#[]⟩)), .nl, .sc (.string (⟨#[]⟩)), .sc (.int .i64 0), .sc (.bool false), .sc (.int .i64 0), .sc (.bool false), .sc (.string (⟨#[]⟩)), .nl, .sc (.int .i64 0), .sc (.bool false), .sc (.bool false), .sc (.string (⟨#[]⟩)), .sc (.bool false), .nl, .sc (.int .i64 0), .sc (.bool false), .nl, .nl, .nl]) s7 (.here) (Am rfl) rfl (Bs rfl) rfl fun H s55 => ?_
     refine Bo s55 (.here) rfl ?_
     refine B0 (cs' := [.sc (.int .i64 p.fType), .sc (.bool false), .sc (.int .i64 0), .sc (.bool false), .sc (.int .i64 p.fId), .sc (.string (⟨#[]⟩)), .nl, .sc (.string (⟨#[]⟩)), .sc (.int .i64 0), .sc (.bool false), .sc (.int .i64 0), .sc (.bool false), .sc (.string (⟨#[]⟩)), .nl, .sc (.int .i64 0), .sc (.bool false), .sc (.bool false), .sc (.string (⟨#[]⟩)), .sc (.bool false), .nl, .sc (.int .i64 0), .sc (.bool false), .nl, .nl, .nl]) s55 Id (Bl (Ab rfl (Ab rfl (Ab rfl (Ab rfl (Ab rfl (Ab rfl (Ab rfl (Ab rfl (Ab rfl (Ab rfl (Ab rfl (Ab rfl (Ab rfl (Ab rfl (Ab rfl (Ab rfl (Ab rfl (Ab rfl (Ab rfl (Ab rfl (Ab rfl (Ab rfl (Ab rfl (Ab rfl (Ab rfl rfl)))))))))))))))))))))))))) rfl (Bs rfl) rfl fun H s56 => ?_
     refine Bo s56 (.here) rfl ?_
     have e : Aq true p = (⟨p.fType, false, 0, false, p.fId, ⟨#[]⟩, ⟨#[]⟩, ⟨#[]⟩, 0, false, 0, false, ⟨#[]⟩, ⟨#[]⟩, 0, false, false, ⟨#[]⟩, false, ⟨#[]⟩, 0, false, [], [], []⟩ : Ar) := by
      clear hk s0 s2 s4 s6 s7 s55 s56
      simp only [decide_eq_true_eq, decide_eq_false_iff_not] at h8 h37 h44 h54
      simp [Aq, Ct, Cs, Dn, h8, h37, h44, h54]
     rw [e] at hk
     exact hk _ _ (fun L' => (.cons .sc (.cons .sc (.cons .sc (.cons .sc (.cons .sc (.cons .sc (.cons .nl (.cons .sc (.cons .sc (.cons .sc (.cons .sc (.cons .sc (.cons .sc (.cons .nl (.cons .sc (.cons .sc (.cons .sc (.cons .sc (.cons .sc (.cons .nl (.cons .sc (.cons .sc (.cons .nl (.cons .nl (.cons .nl .nil)))))))))))))))))))))))))) s56.tail.tail.tail
    ·refine Bf h54 ?_
     refine Au ?_
     refine Ac ((decide (p.fType = 5))) (fun h57 => ?_) (fun h57 => ?_)
     ·refine A0 h57 ?_
      refine A0 h57 ?_
      refine Ad (o' := 4) rfl ?_
      refine Al (c := .sc (.int .i64 p.fId)) s7 D6 rfl ?_
      refine Ad (o' := 4) rfl ?_
      refine B0 (cs' := [.sc (.int .i64 p.fType), .sc (.bool false), .sc (.int .i64 0), .sc (.bool false), .sc (.int .i64 p.fId), .sc (.string (⟨#[]⟩)), .nl, .sc (.string (⟨#[]⟩)), .sc (.int .i64 0), .sc (.bool false), .sc (.int .i64 0), .sc (.bool false), .sc (.string (⟨#[]⟩)), .nl, .sc (.int .i64 0), .sc (.bool false), .sc (.bool false), .sc (.string (⟨#[]⟩)), .sc (.bool false), .nl, .sc (.int .i64 0), .sc (.bool false), .nl, .nl, .nl]) s7 (.here) (Am rfl) rfl (Bs rfl) rfl fun H s58 => ?_
      refine Bo s58 (.here) rfl ?_
      refine B0 (cs' := [.sc (.int .i64 p.fType), .sc (.bool false), .sc (.int .i64 0), .sc (.bool false), .sc (.int .i64 p.fId), .sc (.string (⟨#[]⟩)), .nl, .sc (.string (⟨#[]⟩)), .sc (.int .i64 0), .sc (.bool false), .sc (.int .i64 0), .sc (.bool false), .sc (.string (⟨#[]⟩)), .nl, .sc (.int .i64 0), .sc (.bool false), .sc (.bool false), .sc (.string (⟨#[]⟩)), .sc (.bool false), .nl, .sc (.int .i64 0), .sc (.bool false), .nl, .nl, .nl]) s58 Id (Bl (Ab rfl (Ab rfl (Ab rfl (Ab rfl (Ab rfl (Ab rfl (Ab rfl (Ab rfl (Ab rfl (Ab rfl (Ab rfl (Ab rfl (Ab rfl (Ab rfl (Ab rfl (Ab rfl (Ab rfl (Ab rfl (Ab rfl (Ab rfl (Ab rfl (Ab rfl (Ab rfl (Ab rfl (Ab rfl rfl)))))))))))))))))))))))))) rfl (Bs rfl) rfl fun H s59 => ?_
      refine Bo s59 (.here) rfl ?_
      have e : Aq true p = (⟨p.fType, false, 0, false, p.fId, ⟨#[]⟩, ⟨#[]⟩, ⟨#[]⟩, 0, false, 0, false, ⟨#[]⟩, ⟨#[]⟩, 0, false, false, ⟨#[]⟩, false, ⟨#[]⟩, 0, false, [], [], []⟩ : Ar) := by
       clear hk s0 s2 s4 s6 s7 s58 s59
       simp only [decide_eq_true_eq, decide_eq_false_iff_not] at h8 h37 h44 h54 h57
       simp [Aq, Ct, Cs, Dn, h8, h37, h44, h54, h57]
      rw [e] at hk
      exact hk _ _ (fun L' => (.cons .sc (.cons .sc (.cons .sc (.cons .sc (.cons .sc (.cons .sc (.cons .nl (.cons .sc (.cons .sc (.cons .sc (.cons .sc (.cons .sc (.cons .sc (.cons .nl (.cons .sc (.cons .sc (.cons .sc (.cons .sc (.cons .sc (.cons .nl (.cons .sc (.cons .sc (.cons .nl (.cons .nl (.cons .nl .nil)))))))))))))))))))))))))) s59.tail.tail.tail
     ·refine Bf h57 ?_
      refine Au ?_
      refine Ac ((decide (p.fType = 6))) (fun h60 => ?_) (fun h60 => ?_)
      ·refine A0 h60 ?_
       refine A0 h60 ?_
       refine Ad (o' := 4) rfl ?_
       refine Al (c := .sc (.int .i64 p.fId)) s7 D6 rfl ?_
       refine Ad (o' := 4) rfl ?_
       refine B0 (cs' := [.sc (.int .i64 p.fType), .sc (.bool false), .sc (.int .i64 0), .sc (.bool false), .sc (.int .i64 p.fId), .sc (.string (⟨#[]⟩)), .nl, .sc (.string (⟨#[]⟩)), .sc (.int .i64 0), .sc (.bool false), .sc (.int .i64 0), .sc (.bool false), .sc (.string (⟨#[]⟩)), .nl, .sc (.int .i64 0), .sc (.bool false), .sc (.bool false), .sc (.string (⟨#[]⟩)), .sc (.bool false), .nl, .sc (.int .i64 0), .sc (.bool false), .nl, .nl, .nl]) s7 (.here) (Am rfl) rfl (Bs rfl) rfl fun H s61 => ?_
       refine Bo s61 (.here) rfl ?_
       refine B0 (cs' := [.sc (.int .i64 p.fType), .sc (.bool false), .sc (.int .i64 0), .sc (.bool false), .sc (.int .i64 p.fId), .sc (.string (⟨#[]⟩)), .nl, .sc (.string (⟨#[]⟩)), .sc (.int .i64 0), .sc (.bool false), .sc (.int .i64 0), .sc (.bool false), .sc (.string (⟨#[]⟩)), .nl, .sc (.int .i64 0), .sc (.bool false), .sc (.bool false), .sc (.string (⟨#[]⟩)), .sc (.bool false), .nl, .sc (.int .i64 0), .sc (.bool false), .nl, .nl, .nl]) s61 Id (Bl (Ab rfl (Ab rfl (Ab rfl (Ab rfl (Ab rfl (Ab rfl (Ab rfl (Ab rfl (Ab rfl (Ab rfl (Ab rfl (Ab rfl (Ab rfl (Ab rfl (Ab rfl (Ab rfl (Ab rfl (Ab rfl (Ab rfl (Ab rfl (Ab rfl (Ab rfl (Ab rfl (Ab rfl (Ab rfl rfl)))))))))))))))))))))))))) rfl (Bs rfl) rfl fun H s62 => ?_
       refine Bo s62 (.here) rfl ?_
       have e : Aq true p = (⟨p.fType, false, 0, false, p.fId, ⟨#[]⟩, ⟨#[]⟩, ⟨#[]⟩, 0, false, 0, false, ⟨#[]⟩, ⟨#[]⟩, 0, false, false, ⟨#[]⟩, false, ⟨#[]⟩, 0, false, [], [], []⟩ : Ar) := by
        clear hk s0 s2 s4 s6 s7 s61 s62
        simp only [decide_eq_true_eq, decide_eq_false_iff_not] at h8 h37 h44 h54 h57 h60
        simp [Aq, Ct, Cs, Dn, h8, h37, h44, h54, h57, h60]
       rw [e] at hk
       exact hk _ _ (fun L' => (.cons .sc (.cons .sc (.cons .sc (.cons .sc (.cons .sc (.cons .sc (.cons .nl (.cons .sc (.cons .sc (.cons .sc (.cons .sc (.cons .sc (.cons .sc (.cons .nl (.cons .sc (.cons .sc (.cons .sc (.cons .sc (.cons .sc (.cons .nl (.cons .sc (.cons .sc (.cons .nl (.cons .nl (.cons .nl .nil)))))))))))))))))))))))))) s62.tail.tail.tail
      ·refine Bf h60 ?_
       refine Au ?_
       refine Ac ((decide (p.fType = 7))) (fun h63 => ?_) (fun h63 => ?_)
       ·refine A0 h63 ?_
        refine A0 h63 ?_
        refine Ad (o' := 4) rfl ?_
        refine Al (c := .sc (.int .i64 p.fId)) s7 D6 rfl ?_
        refine Ad (o' := 4) rfl ?_
        refine B0 (cs' := [.sc (.int .i64 p.fType), .sc (.bool false), .sc (.int .i64 0), .sc (.bool false), .sc (.int .i64 p.fId), .sc (.string (⟨#[]⟩)), .nl, .sc (.string (⟨#[]⟩)), .sc (.int .i64 0), .sc (.bool false), .sc (.int .i64 0), .sc (.bool false), .sc (.string (⟨#[]⟩)), .nl, .sc (.int .i64 0), .sc (.bool false), .sc (.bool false), .sc (.string (⟨#[]⟩)), .sc (.bool false), .nl, .sc (.int .i64 0), .sc (.bool false), .nl, .nl, .nl]) s7 (.here) (Am rfl) rfl (Bs rfl) rfl fun H s64 => ?_
        refine Bo s64 (.here) rfl ?_
        refine B0 (cs' := [.sc (.int .i64 p.fType), .sc (.bool false), .sc (.int .i64 0), .sc (.bool false), .sc (.int .i64 p.fId), .sc (.string (⟨#[]⟩)), .nl, .sc (.string (⟨#[]⟩)), .sc (.int .i64 0), .sc (.bool false), .sc (.int .i64 0), .sc (.bool false), .sc (.string (⟨#[]⟩)), .nl, .sc (.int .i64 0), .sc (.bool false), .sc (.bool false), .sc (.string (⟨#[]⟩)), .sc (.bool false), .nl, .sc (.int .i64 0), .sc (.bool false), .nl, .nl, .nl]) s64 Id (Bl (Ab rfl (Ab rfl (Ab rfl (Ab rfl (Ab rfl (Ab rfl (Ab rfl (Ab rfl (Ab rfl (Ab rfl (Ab rfl (Ab rfl (Ab rfl (Ab rfl (Ab rfl (Ab rfl (Ab rfl (Ab rfl (Ab rfl (Ab rfl (Ab rfl (Ab rfl (Ab rfl (Ab rfl (Ab rfl rfl)))))))))))))))))))))))))) rfl (Bs rfl) rfl fun H s65 => ?_
        refine Bo s65 (.here) rfl ?_
        have e : Aq true p = (⟨p.fType, false, 0, false, p.fId, ⟨#[]⟩, ⟨#[]⟩, ⟨#[]⟩, 0, false, 0, false, ⟨#[]⟩, ⟨#[]⟩, 0, false, false, ⟨#[]⟩, false, ⟨#[]⟩, 0, false, [], [], []⟩ : Ar) := by
         clear hk s0 s2 s4 s6 s7 s64 s65
         simp only [decide_eq_true_eq, decide_eq_false_iff_not] at h8 h37 h44 h54 h57 h60 h63
         simp [Aq, Ct, Cs, Dn, h8, h37, h44, h54, h57, h60, h63]
        rw [e] at hk
        exact hk _ _ (fun L' => (.cons .sc (.cons .sc (.cons .sc (.cons .sc (.cons .sc (.cons .sc (.cons .nl (.cons .sc (.cons .sc (.cons .sc (.cons .sc (.cons .sc (.cons .sc (.cons .nl (.cons .sc (.cons .sc (.cons .sc (.cons .sc (.cons .sc (.cons .nl (.cons .sc (.cons .sc (.cons .nl (.cons .nl (.cons .nl .nil)))))))))))))))))))))))))) s65.tail.tail.tail
       ·refine Bf h63 ?_
        refine Au ?_
        refine Ac ((decide (p.fType = 11))) (fun h66 => ?_) (fun h66 => ?_)
        ·refine A0 h66 ?_
         refine Ad (o' := 4) rfl ?_
         refine Al (c := .sc (.int .i64 p.fId)) s7 D6 rfl ?_
         refine Ad (o' := 4) rfl ?_
         refine B0 (cs' := [.sc (.int .i64 p.fType), .sc (.bool false), .sc (.int .i64 0), .sc (.bool false), .sc (.int .i64 p.fId), .sc (.string (⟨#[]⟩)), .nl, .sc (.string (⟨#[]⟩)), .sc (.int .i64 0), .sc (.bool false), .sc (.int .i64 0), .sc (.bool false), .sc (.string (⟨#[]⟩)), .nl, .sc (.int .i64 0), .sc (.bool false), .sc (.bool false), .sc (.string (⟨#[]⟩)), .sc (.bool false), .nl, .sc (.int .i64 0), .sc (.bool false), .nl, .nl, .nl]) s7 (.here) (Am rfl) rfl (Bs rfl) rfl fun H s67 => ?_
         refine Bo s67 (.here) rfl ?_
         refine B0 (cs' := [.sc (.int .i64 p.fType), .sc (.bool false), .sc (.int .i64 0), .sc (.bool false), .sc (.int .i64 p.fId), .sc (.string (⟨#[]⟩)), .nl, .sc (.string (⟨#[]⟩)), .sc (.int .i64 0), .sc (.bool false), .sc (.int .i64 0), .sc (.bool false), .sc (.string (⟨#[]⟩)), .nl, .sc (.int .i64 0), .sc (.bool false), .sc (.bool false), .sc (.string (⟨#[]⟩)), .sc (.bool false), .nl, .sc (.int .i64 0), .sc (.bool false), .nl, .nl, .nl]) s67 Id (Bl (Ab rfl (Ab rfl (Ab rfl (Ab rfl (Ab rfl (Ab rfl (Ab rfl (Ab rfl (Ab rfl (Ab rfl (Ab rfl (Ab rfl (Ab rfl (Ab rfl (Ab rfl (Ab rfl (Ab rfl (Ab rfl (Ab rfl (Ab rfl (Ab rfl (Ab rfl (Ab rfl (Ab rfl (Ab rfl rfl)))))))))))))))))))))))))) rfl (Bs rfl) rfl fun H s68 => ?_
         refine Bo s68 (.here) rfl ?_
         have e : Aq true p = (⟨p.fType, false, 0, false, p.fId, ⟨#[]⟩, ⟨#[]⟩, ⟨#[]⟩, 0, false, 0, false, ⟨#[]⟩, ⟨#[]⟩, 0, false, false, ⟨#[]⟩, false, ⟨#[]⟩, 0, false, [], [], []⟩ : Ar) := by
          clear hk s0 s2 s4 s6 s7 s67 s68
          simp only [decide_eq_true_eq, decide_eq_false_iff_not] at h8 h37 h44 h54 h57 h60 h63 h66
          simp [Aq, Ct, Cs, Dn, h8, h37, h44, h54, h57, h60, h63, h66]
         rw [e] at hk
         exact hk _ _ (fun L' => (.cons .sc (.cons .sc (.cons .sc (.cons .sc (.cons .sc (.cons .sc (.cons .nl (.cons .sc (.cons .sc (.cons .sc (.cons .sc (.cons .sc (.cons .sc (.cons .nl (.cons .sc (.cons .sc (.cons .sc (.cons .sc (.cons .sc (.cons .nl (.cons .sc (.cons .sc (.cons .nl (.cons .nl (.cons .nl .nil)))))))))))))))))))))))))) s68.tail.tail.tail
        ·refine Bf h66 ?_
         refine Au ?_
         refine Ac ((decide (p.fType = 8))) (fun h69 => ?_) (fun h69 => ?_)
         ·refine A0 h69 ?_
          refine Ad (o' := 4) rfl ?_
          refine Al (c := .sc (.int .i64 p.fId)) s7 D6 rfl ?_
          refine Ad (o' := 4) rfl ?_
          refine B0 (cs' := [.sc (.int .i64 p.fType), .sc (.bool false), .sc (.int .i64 0), .sc (.bool false), .sc (.int .i64 p.fId), .sc (.string (⟨#[]⟩)), .nl, .sc (.string (⟨#[]⟩)), .sc (.int .i64 0), .sc (.bool false), .sc (.int .i64 0), .sc (.bool false), .sc (.string (⟨#[]⟩)), .nl, .sc (.int .i64 0), .sc (.bool false), .sc (.bool false), .sc (.string (⟨#[]⟩)), .sc (.bool false), .nl, .sc (.int .i64 0), .sc (.bool false), .nl, .nl, .nl]) s7 (.here) (Am rfl) rfl (Bs rfl) rfl fun H s70 => ?_
          refine Ad (o' := 22) rfl ?_
          refine Al (c := Bq Bg p.fWants) s70 D6 rfl ?_
          refine Ad (o' := 22) rfl ?_
          refine B0 (cs' := [.sc (.int .i64 p.fType), .sc (.bool false), .sc (.int .i64 0), .sc (.bool false), .sc (.int .i64 p.fId), .sc (.string (⟨#[]⟩)), .nl, .sc (.string (⟨#[]⟩)), .sc (.int .i64 0), .sc (.bool false), .sc (.int .i64 0), .sc (.bool false), .sc (.string (⟨#[]⟩)), .nl, .sc (.int .i64 0), .sc (.bool false), .sc (.bool false), .sc (.string (⟨#[]⟩)), .sc (.bool false), .nl, .sc (.int .i64 0), .sc (.bool false), Bq Bg p.fWants, .nl, .nl]) s70 (.here) (Am rfl) rfl (Bs rfl) rfl fun H s71 => ?_
          refine Bo s71 (.here) rfl ?_
          refine B0 (cs' := [.sc (.int .i64 p.fType), .sc (.bool false), .sc (.int .i64 0), .sc (.bool false), .sc (.int .i64 p.fId), .sc (.string (⟨#[]⟩)), .nl, .sc (.string (⟨#[]⟩)), .sc (.int .i64 0), .sc (.bool false), .sc (.int .i64 0), .sc (.bool false), .sc (.string (⟨#[]⟩)), .nl, .sc (.int .i64 0), .sc (.bool false), .sc (.bool false), .sc (.string (⟨#[]⟩)), .sc (.bool false), .nl, .sc (.int .i64 0), .sc (.bool false), Bq Bg p.fWants, .nl, .nl]) s71 Id (Bl (Ab rfl (Ab rfl (Ab rfl (Ab rfl (Ab rfl (Ab rfl (Ab rfl (Ab rfl (Ab rfl (Ab rfl (Ab rfl (Ab rfl (Ab rfl (Ab rfl (Ab rfl (Ab rfl (Ab rfl (Ab rfl (Ab rfl (Ab rfl (Ab rfl (Ab rfl (Ab rfl (Ab rfl (Ab rfl rfl)))))))))))))))))))))))))) rfl (Bs rfl) rfl fun H s72 => ?_
          refine Bo s72 (.here) rfl ?_
          have e : Aq true p = (⟨p.fType, false, 0, false, p.fId, ⟨#[]⟩, ⟨#[]⟩, ⟨#[]⟩, 0, false, 0, false, ⟨#[]⟩, ⟨#[]⟩, 0, false, false, ⟨#[]⟩, false, ⟨#[]⟩, 0, false, p.fWants, [], []⟩ : Ar) := by
           clear hk s0 s2 s4 s6 s7 s70 s71 s72
           simp only [decide_eq_true_eq, decide_eq_false_iff_not] at h8 h37 h44 h54 h57 h60 h63 h66 h69
           simp [Aq, Ct, Cs, Dn, h8, h37, h44, h54, h57, h60, h63, h66, h69]
          rw [e] at hk
          exact hk _ _ (fun L' => (.cons .sc (.cons .sc (.cons .sc (.cons .sc (.cons .sc (.cons .sc (.cons .nl (.cons .sc (.cons .sc (.cons .sc (.cons .sc (.cons .sc (.cons .sc (.cons .nl (.cons .sc (.cons .sc (.cons .sc (.cons .sc (.cons .sc (.cons .nl (.cons .sc (.cons .sc (.cons .ro (.cons .nl (.cons .nl .nil)))))))))))))))))))))))))) s72.tail.tail.tail
         ·refine Bf h69 ?_
          refine Au ?_
          refine Ac ((decide (p.fType = 9))) (fun h73 => ?_) (fun h73 => ?_)
          ·refine A0 h73 ?_
           refine Ad (o' := 4) rfl ?_
           refine Al (c := .sc (.int .i64 p.fId)) s7 D6 rfl ?_
           refine Ad (o' := 4) rfl ?_
           refine B0 (cs' := [.sc (.int .i64 p.fType), .sc (.bool false), .sc (.int .i64 0), .sc (.bool false), .sc (.int .i64 p.fId), .sc (.string (⟨#[]⟩)), .nl, .sc (.string (⟨#[]⟩)), .sc (.int .i64 0), .sc (.bool false), .sc (.int .i64 0), .sc (.bool false), .sc (.string (⟨#[]⟩)), .nl, .sc (.int .i64 0), .sc (.bool false), .sc (.bool false), .sc (.string (⟨#[]⟩)), .sc (.bool false), .nl, .sc (.int .i64 0), .sc (.bool false), .nl, .nl, .nl]) s7 (.here) (Am rfl) rfl (Bs rfl) rfl fun H s74 => ?_
           refine Ad (o' := 24) rfl ?_
           refine Al (c := Dl p.fCodes) s74 D6 rfl ?_
           refine Ad (o' := 24) rfl ?_
           refine B0 (cs' := [.sc (.int .i64 p.fType), .sc (.bool false), .sc (.int .i64 0), .sc (.bool false), .sc (.int .i64 p.fId), .sc (.string (⟨#[]⟩)), .nl, .sc (.string (⟨#[]⟩)), .sc (.int .i64 0), .sc (.bool false), .sc (.int .i64 0), .sc (.bool false), .sc (.string (⟨#[]⟩)), .nl, .sc (.int .i64 0), .sc (.bool false), .sc (.bool false), .sc (.string (⟨#[]⟩)), .sc (.bool false), .nl, .sc (.int .i64 0), .sc (.bool false), .nl, .nl, Dl p.fCodes]) s74 (.here) (Am rfl) rfl (Bs rfl) rfl fun H s75 => ?_
           refine Bo s75 (.here) rfl ?_
           refine B0 (cs' := [.sc (.int .i64 p.fType), .sc (.bool false), .sc (.int .i64 0), .sc (.bool false), .sc (.int .i64 p.fId), .sc (.string (⟨#[]⟩)), .nl, .sc (.string (⟨#[]⟩)), .sc (.int .i64 0), .sc (.bool false), .sc (.int .i64 0), .sc (.bool false), .sc (.string (⟨#[]⟩)), .nl, .sc (.int .i64 0), .sc (.bool false), .sc (.bool false), .sc (.string (⟨#[]⟩)), .sc (.bool false), .nl, .sc (.int .i64 0), .sc (.bool false), .nl, .nl, Dl p.fCodes]) s75 Id (Bl (Ab rfl (Ab rfl (Ab rfl (Ab rfl (Ab rfl (Ab rfl (Ab rfl (Ab rfl (Ab rfl (Ab rfl (Ab rfl (Ab rfl (Ab rfl (Ab rfl (Ab rfl (Ab rfl (Ab rfl (Ab rfl (Ab rfl (Ab rfl (Ab rfl (Ab rfl (Ab rfl (Ab rfl (Ab rfl rfl)))))))))))))))))))))))))) rfl (Bs rfl) rfl fun H s76 => ?_
           refine Bo s76 (.here) rfl ?_
           have e : Aq true p = (⟨p.fType, false, 0, false, p.fId, ⟨#[]⟩, ⟨#[]⟩, ⟨#[]⟩, 0, false, 0, false, ⟨#[]⟩, ⟨#[]⟩, 0, false, false, ⟨#[]⟩, false, ⟨#[]⟩, 0, false, [], [], p.fCodes⟩ : Ar) := by
            clear hk s0 s2 s4 s6 s7 s74 s75 s76
            simp only [decide_eq_true_eq, decide_eq_false_iff_not] at h8 h37 h44 h54 h57 h60 h63 h66 h69 h73
            simp [Aq, Ct, Cs, Dn, h8, h37, h44, h54, h57, h60, h63, h66, h69, h73]
           rw [e] at hk
           exact hk _ _ (fun L' => (.cons .sc (.cons .sc (.cons .sc (.cons .sc (.cons .sc (.cons .sc (.cons .nl (.cons .sc (.cons .sc (.cons .sc (.cons .sc (.cons .sc (.cons .sc (.cons .nl (.cons .sc (.cons .sc (.cons .sc (.cons .sc (.cons .sc (.cons .nl (.cons .sc (.cons .sc (.cons .nl (.cons .nl (.cons .ro .nil)))))))))))))))))))))))))) s76.tail.tail.tail
          ·refine Bf h73 ?_
           refine Au ?_
           refine Ac ((decide (p.fType = 10))) (fun h77 => ?_) (fun h77 => ?_)
           ·refine A0 h77 ?_
            refine Ad (o' := 4) rfl ?_
            refine Al (c := .sc (.int .i64 p.fId)) s7 D6 rfl ?_
            refine Ad (o' := 4) rfl ?_
            refine B0 (cs' := [.sc (.int .i64 p.fType), .sc (.bool false), .sc (.int .i64 0), .sc (.bool false), .sc (.int .i64 p.fId), .sc (.string (⟨#[]⟩)), .nl, .sc (.string (⟨#[]⟩)), .sc (.int .i64 0), .sc (.bool false), .sc (.int .i64 0), .sc (.bool false), .sc (.string (⟨#[]⟩)), .nl, .sc (.int .i64 0), .sc (.bool false), .sc (.bool false), .sc (.string (⟨#[]⟩)), .sc (.bool false), .nl, .sc (.int .i64 0), .sc (.bool false), .nl, .nl, .nl]) s7 (.here) (Am rfl) rfl (Bs rfl) rfl fun H s78 => ?_
            refine Ad (o' := 23) rfl ?_
            refine Al (c := Dc p.fNames) s78 D6 rfl ?_
            refine Ad (o' := 23) rfl ?_
            refine B0 (cs' := [.sc (.int .i64 p.fType), .sc (.bool false), .sc (.int .i64 0), .sc (.bool false), .sc (.int .i64 p.fId), .sc (.string (⟨#[]⟩)), .nl, .sc (.string (⟨#[]⟩)), .sc (.int .i64 0), .sc (.bool false), .sc (.int .i64 0), .sc (.bool false), .sc (.string (⟨#[]⟩)), .nl, .sc (.int .i64 0), .sc (.bool false), .sc (.bool false), .sc (.string (⟨#[]⟩)), .sc (.bool false), .nl, .sc (.int .i64 0), .sc (.bool false), .nl, Dc p.fNames, .nl]) s78 (.here) (Am rfl) rfl (Bs rfl) rfl fun H s79 => ?_
            refine Bo s79 (.here) rfl ?_
            refine B0 (cs' := [.sc (.int .i64 p.fType), .sc (.bool false), .sc (.int .i64 0), .sc (.bool false), .sc (.int .i64 p.fId), .sc (.string (⟨#[]⟩)), .nl, .sc (.string (⟨#[]⟩)), .sc (.int .i64 0), .sc (.bool false), .sc (.int .i64 0), .sc (.bool false), .sc (.string (⟨#[]⟩)), .nl, .sc (.int .i64 0), .sc (.bool false), .sc (.bool false), .sc (.string (⟨#[]⟩)), .sc (.bool false), .nl, .sc (.int .i64 0), .sc (.bool false), .nl, Dc p.fNames, .nl]) s79 Id (Bl (Ab rfl (Ab rfl (Ab rfl (Ab rfl (Ab rfl (Ab rfl (Ab rfl (Ab rfl (Ab rfl (Ab rfl (Ab rfl (Ab rfl (Ab rfl (Ab rfl (Ab rfl (Ab rfl (Ab rfl (Ab rfl (Ab rfl (Ab rfl (Ab rfl (Ab rfl (Ab rfl (Ab rfl (Ab rfl rfl)))))))))))))))))))))))))) rfl (Bs rfl) rfl fun H s80 => ?_
            refine Bo s80 (.here) rfl ?_
            have e : Aq true p = (⟨p.fType, false, 0, false, p.fId, ⟨#[]⟩, ⟨#[]⟩, ⟨#[]⟩, 0, false, 0, false, ⟨#[]⟩, ⟨#[]⟩, 0, false, false, ⟨#[]⟩, false, ⟨#[]⟩, 0, false, [], p.fNames, []⟩ : Ar) := by
             clear hk s0 s2 s4 s6 s7 s78 s79 s80
             simp only [decide_eq_true_eq, decide_eq_false_iff_not] at h8 h37 h44 h54 h57 h60 h63 h66 h69 h73 h77
             simp [Aq, Ct, Cs, Dn, h8, h37, h44, h54, h57, h60, h63, h66, h69, h73, h77]
            rw [e] at hk
            exact hk _ _ (fun L' => (.cons .sc (.cons .sc (.cons .sc (.cons .sc (.cons .sc (.cons .sc (.cons .nl (.cons .sc (.cons .sc (.cons .sc (.cons .sc (.cons .sc (.cons .sc (.cons .nl (.cons .sc (.cons .sc (.cons .sc (.cons .sc (.cons .sc (.cons .nl (.cons .sc (.cons .sc (.cons .nl (.cons .ro (.cons .nl .nil)))))))))))))))))))))))))) s80.tail.tail.tail
           ·refine Bf h77 ?_
            refine Bo s7 (.here) rfl ?_
            refine B0 (cs' := [.sc (.int .i64 p.fType), .sc (.bool false), .sc (.int .i64 0), .sc (.bool false), .sc (.int .i64 0), .sc (.string (⟨#[]⟩)), .nl, .sc (.string (⟨#[]⟩)), .sc (.int .i64 0), .sc (.bool false), .sc (.int .i64 0), .sc (.bool false), .sc (.string (⟨#[]⟩)), .nl, .sc (.int .i64 0), .sc (.bool false), .sc (.bool false), .sc (.string (⟨#[]⟩)), .sc (.bool false), .nl, .sc (.int .i64 0), .sc (.bool false), .nl, .nl, .nl]) s7 Id (Bl (Ab rfl (Ab rfl (Ab rfl (Ab rfl (Ab rfl (Ab rfl (Ab rfl (Ab rfl (Ab rfl (Ab rfl (Ab rfl (Ab rfl (Ab rfl (Ab rfl (Ab rfl (Ab rfl (Ab rfl (Ab rfl (Ab rfl (Ab rfl (Ab rfl (Ab rfl (Ab rfl (Ab rfl (Ab rfl rfl)))))))))))))))))))))))))) rfl (Bs rfl) rfl fun H s81 => ?_
            refine Bo s81 (.here) rfl ?_
            have e : Aq true p = (⟨p.fType, false, 0, false, 0, ⟨#[]⟩, ⟨#[]⟩, ⟨#[]⟩, 0, false, 0, false, ⟨#[]⟩, ⟨#[]⟩, 0, false, false, ⟨#[]⟩, false, ⟨#[]⟩, 0, false, [], [], []⟩ : Ar) := by
             clear hk s0 s2 s4 s6 s7 s81
             simp only [decide_eq_true_eq, decide_eq_false_iff_not] at h8 h37 h44 h54 h57 h60 h63 h66 h69 h73 h77
             simp [Aq, Ct, Cs, Dn, h8, h37, h44, h54, h57, h60, h63, h66, h69, h73, h77]
            rw [e] at hk
            exact hk _ _ (fun L' => (.cons .sc (.cons .sc (.cons .sc (.cons .sc (.cons .sc (.cons .sc (.cons .nl (.cons .sc (.cons .sc (.cons .sc (.cons .sc (.cons .sc (.cons .sc (.cons .nl (.cons .sc (.cons .sc (.cons .sc (.cons .sc (.cons .sc (.cons .nl (.cons .sc (.cons .sc (.cons .nl (.cons .nl (.cons .nl .nil)))))))))))))))))))))))))) s81.tail.tail.tail
end
end Go.Proofs.YtjiahcekpohehaaGreatDoor.Abs
