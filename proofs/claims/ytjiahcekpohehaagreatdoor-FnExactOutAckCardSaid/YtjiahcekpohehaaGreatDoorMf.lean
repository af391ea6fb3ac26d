/- What the proof needs, part 6: a sound evaluator over trees, the program's functions on it, and what they come to. -/
import Derived.Test.YtjiahcekpohehaaGreatDoorMe
import Derived.Test.YtjiahcekpohehaaGreatDoorRows
import Derived.Test.YtjiahcekpohehaaGreatDoorTie
import Derived.Test.YtjiahcekpohehaaGreatDoorCards
import Derived.Lib.LaidIn
import Derived.Lib.LaidU8T
import Derived.PinnedBridge
import Derived.SevenTiedAt
import Derived.Deep.DeepHandedRow
import Derived.Deep.DeepWitnessRowRef
import Derived.WalkKit
import Derived.ProofKit
import Derived.OpenShut
import Derived.ShutString
import Derived.ChangeOld
import Derived.Below
import Derived.SizedLaws
set_option linter.unusedVariables false
set_option linter.unusedSimpArgs false
set_option maxRecDepth 100000
set_option maxHeartbeats 1600000
namespace Go.Proofs.YtjiahcekpohehaaGreatDoor.Abs
section
open Go
def C0 (kd id : Int) (o : Ci) (pre : List Af) : List Af → Ci × Ay × Bool
 | [] => (o, Gx, false)
 | f :: t => if f.fId = id then (if (kd = 4 ∧ f.fSt = 1) ∨ (kd = 7 ∧ f.fSt = 3) then ({ o with fFl := pre ++ t }, Gx, true)
   else if kd = 5 ∧ ¬ f.fSt = 1 then ({ o with fFl := pre ++ { f with fSt := 3 } :: t }, Au id, true) else C0 kd id o (pre ++ [f]) t) else C0 kd id o (pre ++ [f]) t
def F5 (o : Ci) (kd id : Int) : Ci × Ay × Bool := if Iz o then C0 kd id o [] o.fFl else (o, Gx, false)
theorem AkJ (o : Ci) (h : Ev o ≤ 1048576) : Sp o := by
 have h1 := Zt o h
 exact ⟨⟨h1.1.1, fun y hy => (h1.1.2 y hy).1⟩, ⟨h1.2.1.1, fun y hy => (h1.2.1.2 y hy).1⟩⟩
theorem Qn (o : Ci) (b : Ev o ≤ 1048576) : o.fFl.length ≤ 1048576 := (Y3 o b).1.1
theorem Fk (n : Nat) (hn : 1048576 < n) (x0 : Ci) (kd : Int) (d : Int) (b0 : Ev x0 ≤ 1048576) (h13 : (Iz x0) = true)  : ∀ (t pre : List Af) (m : Nat) (i : Int) (i10 i5 i3 i1 : Nat) (x8 x7 : AV) (H : Ab), x0.fFl = pre ++ t → i = ((pre.length : Nat) : Int) → t.length < m → A4 x8 = true → A4 x7 = true → Sep H [.blk i10 [.sc (.int .i64 x0.fLast), x7, x8] true, .own x8 28 (At A1 x0.fQ), .own x7 27 (At Ap x0.fFl), .blk i5 [.sc (.int .i64 0), .sc (.bool false), .sc (.int .i64 0), .sc (.bool false), .sc (.int .i64 0), .sc (.string (⟨#[]⟩)), .nl, .sc (.string (⟨#[]⟩)), .sc (.int .i64 0), .sc (.bool false), .sc (.int .i64 0), .sc (.bool false), .sc (.string (⟨#[]⟩)), .nl, .sc (.int .i64 0), .sc (.bool false), .sc (.bool false), .sc (.string (⟨#[]⟩)), .sc (.bool false), .nl, .sc (.int .i64 0), .sc (.bool false), .nl, .nl, .nl] true, .blk i3 [.sc (.int .i64 0), .nl, .nl] true, .blk i1 (Ar x0) true] → Gd (· = some (.tup [.agg (Ar (C0 kd d x0 pre t).1), .agg (Aq (C0 kd d x0 pre t).2.1), .sc (.bool (C0 kd d x0 pre t).2.2)])) (Lc (PR (n + 12) AV) (n + 12) (fun x H => Aw Ag E0.tp 37 H x) m (.sc (.int .i64 kd)) (.sc (.int .i64 d)) (.ptr i1 0) (.ptr i3 0) (.ptr i5 0) (.ptr i10 0) (.sc (.int .i64 i)) H)
 | [], pre, m + 1, i, i10, i5, i3, i1, x8, x7, H, he, hi, hm, lx8, lx7, s0 => by
  obtain rfl : pre = x0.fFl := by simpa using he.symm
  have hfl := Qn x0 b0
  rw [Lc]
  try simp only [Cp, Bj, Bb, Bo, Bg, A9, Br, B4, B7, Ca, C5, B3, De]
  refine Ac (o' := 1) rfl ?_
  refine Bp (c := At Ap x0.fFl) s0 S9 rfl ?_
  refine Air ?_
  refine AeC ?_
  refine B5 (by simp [hi]) ?_
  refine Ao s0 (.here) rfl ?_
  refine E5 (cs := [.sc (.int .i64 0), .sc (.bool false), .sc (.int .i64 0), .sc (.bool false), .sc (.int .i64 0), .sc (.string (⟨#[]⟩)), .nl, .sc (.string (⟨#[]⟩)), .sc (.int .i64 0), .sc (.bool false), .sc (.int .i64 0), .sc (.bool false), .sc (.string (⟨#[]⟩)), .nl, .sc (.int .i64 0), .sc (.bool false), .sc (.bool false), .sc (.string (⟨#[]⟩)), .sc (.bool false), .nl, .sc (.int .i64 0), .sc (.bool false), .nl, .nl, .nl]) rfl ?_
  refine A5 (cs' := [.sc (.int .i64 x0.fLast), x7, x8]) s0 I6 (Ai (Aa rfl (Aa lx7 (Aa lx8 rfl)))) rfl (A3 rfl) rfl fun H s201 => ?_
  refine A5 (cs' := [.sc (.int .i64 0), .sc (.bool false), .sc (.int .i64 0), .sc (.bool false), .sc (.int .i64 0), .sc (.string (⟨#[]⟩)), .nl, .sc (.string (⟨#[]⟩)), .sc (.int .i64 0), .sc (.bool false), .sc (.int .i64 0), .sc (.bool false), .sc (.string (⟨#[]⟩)), .nl, .sc (.int .i64 0), .sc (.bool false), .sc (.bool false), .sc (.string (⟨#[]⟩)), .sc (.bool false), .nl, .sc (.int .i64 0), .sc (.bool false), .nl, .nl, .nl]) s201 I6 (Ai (Aa rfl (Aa rfl (Aa rfl (Aa rfl (Aa rfl (Aa rfl (Aa rfl (Aa rfl (Aa rfl (Aa rfl (Aa rfl (Aa rfl (Aa rfl (Aa rfl (Aa rfl (Aa rfl (Aa rfl (Aa rfl (Aa rfl (Aa rfl (Aa rfl (Aa rfl (Aa rfl (Aa rfl (Aa rfl rfl)))))))))))))))))))))))))) rfl (A3 rfl) rfl fun H s202 => ?_
  refine Ao s202 Do rfl ?_
  refine Ao s202 (.here) rfl ?_
  refine Ec (Dm s202 rfl (.agg ⟨_, rfl, rfl⟩ (.sc (.own I6 (.own Mn .nil))) (.agg ⟨_, rfl, rfl⟩ (.sc (.sc (.sc (.sc (.sc (.sc (.nl (.sc (.sc (.sc (.sc (.sc (.sc (.nl (.sc (.sc (.sc (.sc (.sc (.nl (.sc (.sc (.nl (.nl (.nl .nil))))))))))))))))))))))))) (.sc .nil))) ⟨(Em ⟨_, rfl, rfl⟩ ⟨trivial, ⟨(Av (Cd x0.fFl) (by decide)), ⟨(Av (Eb x0.fQ) (by decide)), trivial⟩⟩⟩), ⟨(Em ⟨_, rfl, rfl⟩ ⟨trivial, ⟨trivial, ⟨trivial, ⟨trivial, ⟨trivial, ⟨trivial, ⟨(Bq ⟨_, _, rfl, rfl⟩), ⟨trivial, ⟨trivial, ⟨trivial, ⟨trivial, ⟨trivial, ⟨trivial, ⟨(Bq ⟨_, _, rfl, rfl⟩), ⟨trivial, ⟨trivial, ⟨trivial, ⟨trivial, ⟨trivial, ⟨(Bq ⟨_, _, rfl, rfl⟩), ⟨trivial, ⟨trivial, ⟨(Bq ⟨_, _, rfl, rfl⟩), ⟨(Bq ⟨_, _, rfl, rfl⟩), ⟨(Bq ⟨_, _, rfl, rfl⟩), trivial⟩⟩⟩⟩⟩⟩⟩⟩⟩⟩⟩⟩⟩⟩⟩⟩⟩⟩⟩⟩⟩⟩⟩⟩⟩), ⟨trivial, trivial⟩⟩⟩) ?_
  have e : C0 kd d x0 x0.fFl [] = ((⟨x0.fLast, x0.fFl, x0.fQ⟩ : Ci), Gx, false) := by
   clear s0 s201 s202
   try simp only [decide_eq_true_eq, decide_eq_false_iff_not] at h13
   rfl
  rw [e]
  first | done | rfl
 | y :: t, pre, m + 1, i, i10, i5, i3, i1, x8, x7, H, he, hi, hm, lx8, lx7, s0 => by
  have hlt : pre.length < x0.fFl.length := by rw [he]; simp
  have hfl := Qn x0 b0
  rw [Lc]
  try simp only [Cp, Bj, Bb, Bo, Bg, A9, Br, B4, B7, Ca, C5, B3, De]
  refine Ac (o' := 1) rfl ?_
  refine Bp (c := At Ap x0.fFl) s0 S9 rfl ?_
  refine Air ?_
  refine AeC ?_
  refine C9 (by simp [hi]; omega) ?_
  refine Ac (o' := 1) rfl ?_
  refine Bp (c := At Ap x0.fFl) s0 S9 rfl ?_
  refine AeB hi Bf (by decide) he ?_
  refine Ak3 (Bf _) ?_
  refine H4 s0 fun i201 H s202 => ?_
  refine A5 (cs' := Ap y) s202 (.here) (Ip (Df _)) rfl (A3 rfl) rfl fun H s203 => ?_
  refine Ac (o' := 0) rfl ?_
  refine Bp (c := .sc (.int .i64 y.fId)) s203 (.here) rfl ?_
  refine N6 ?_
  refine Ae ((decide (y.fId = d))) (fun h204 => ?_) (fun h204 => ?_)
  ·refine B5 (nF h204) ?_
   refine Bx ?_
   refine Ae ((decide (kd = 4))) (fun h205 => ?_) (fun h205 => ?_)
   ·refine C1 h205 ?_
    refine Ac (o' := 5) rfl ?_
    refine C1 h205 ?_
    refine Bp (c := .sc (.int .i64 y.fSt)) s203 (.here) rfl ?_
    refine C1 h205 ?_
    refine Bx ?_
    refine Ld h205 ?_
    refine Ae ((decide (y.fSt = 1))) (fun h206 => ?_) (fun h206 => ?_)
    ·refine El h206 ?_
     refine El h206 ?_
     refine El h206 ?_
     refine Aj3 ?_
     refine Aj3 ?_
     refine Aj3 ?_
     refine El h206 ?_
     refine Ld h206 ?_
     refine C9 rfl ?_
     refine Ac (o' := 1) rfl ?_
     refine Bp (c := x7) s203 Do rfl ?_
     have s207 := s203.toShs Mn
     refine Jz (a := 0) (b := i) s207 ⟨_, _, rfl, rfl, rfl, rfl⟩ (.here) rfl rfl (by omega) (by first | omega | (simp; omega)) (by first | omega | (simp; omega)) Bf rfl fun y208 ly208 qy208 s209 => ?_
     refine Ac (o' := 1) rfl ?_
     refine Bp (c := x7) s209 Dn rfl ?_
     refine Jy (by omega) (by omega) ?_
     refine Jz (a := (i + 1)) (b := ((x0.fFl.length : Nat) : Int)) s209 ⟨_, _, rfl, rfl, rfl, rfl⟩ (.here) rfl rfl (by omega) (by first | omega | (simp; omega)) (by first | omega | (simp; omega)) Bf rfl fun y210 ly210 qy210 s211 => ?_
     refine N3 (i := i.toNat) s211 ⟨_, _, rfl, rfl, rfl, rfl⟩ (.here) (by omega) qy208 (by have h := qy210; rw [show (i + 1).toNat = i.toNat + 1 by omega, Int.toNat_natCast] at h; exact h) Bf Df rfl (by omega) fun x212 H lx212 s213 => ?_
     refine Ac (o' := 1) rfl ?_
     refine A5 (cs' := [.sc (.int .i64 x0.fLast), x212, x8]) s213 Dn (Ak lx212) rfl (A3 rfl) rfl fun H s214 => ?_
     refine Ao s214 (.here) rfl ?_
     refine E5 (cs := [.sc (.int .i64 0), .sc (.bool false), .sc (.int .i64 0), .sc (.bool false), .sc (.int .i64 0), .sc (.string (⟨#[]⟩)), .nl, .sc (.string (⟨#[]⟩)), .sc (.int .i64 0), .sc (.bool false), .sc (.int .i64 0), .sc (.bool false), .sc (.string (⟨#[]⟩)), .nl, .sc (.int .i64 0), .sc (.bool false), .sc (.bool false), .sc (.string (⟨#[]⟩)), .sc (.bool false), .nl, .sc (.int .i64 0), .sc (.bool false), .nl, .nl, .nl]) rfl ?_
     refine A5 (cs' := [.sc (.int .i64 x0.fLast), x212, x8]) s214 S9 (Ai (Aa rfl (Aa lx212 (Aa lx8 rfl)))) rfl (A3 rfl) rfl fun H s215 => ?_
     refine A5 (cs' := [.sc (.int .i64 0), .sc (.bool false), .sc (.int .i64 0), .sc (.bool false), .sc (.int .i64 0), .sc (.string (⟨#[]⟩)), .nl, .sc (.string (⟨#[]⟩)), .sc (.int .i64 0), .sc (.bool false), .sc (.int .i64 0), .sc (.bool false), .sc (.string (⟨#[]⟩)), .nl, .sc (.int .i64 0), .sc (.bool false), .sc (.bool false), .sc (.string (⟨#[]⟩)), .sc (.bool false), .nl, .sc (.int .i64 0), .sc (.bool false), .nl, .nl, .nl]) s215 S9 (Ai (Aa rfl (Aa rfl (Aa rfl (Aa rfl (Aa rfl (Aa rfl (Aa rfl (Aa rfl (Aa rfl (Aa rfl (Aa rfl (Aa rfl (Aa rfl (Aa rfl (Aa rfl (Aa rfl (Aa rfl (Aa rfl (Aa rfl (Aa rfl (Aa rfl (Aa rfl (Aa rfl (Aa rfl (Aa rfl rfl)))))))))))))))))))))))))) rfl (A3 rfl) rfl fun H s216 => ?_
     refine Ao s216 Do rfl ?_
     refine Ao s216 (.here) rfl ?_
     refine Ec (Dm s216 rfl (.agg ⟨_, rfl, rfl⟩ (.sc (.own Mn (.own I6 .nil))) (.agg ⟨_, rfl, rfl⟩ (.sc (.sc (.sc (.sc (.sc (.sc (.nl (.sc (.sc (.sc (.sc (.sc (.sc (.nl (.sc (.sc (.sc (.sc (.sc (.nl (.sc (.sc (.nl (.nl (.nl .nil))))))))))))))))))))))))) (.sc .nil))) ⟨(Em ⟨_, rfl, rfl⟩ ⟨trivial, ⟨(Av (Cd (x0.fFl.take i.toNat ++ x0.fFl.drop (i.toNat + 1))) (by decide)), ⟨(Av (Eb x0.fQ) (by decide)), trivial⟩⟩⟩), ⟨(Em ⟨_, rfl, rfl⟩ ⟨trivial, ⟨trivial, ⟨trivial, ⟨trivial, ⟨trivial, ⟨trivial, ⟨(Bq ⟨_, _, rfl, rfl⟩), ⟨trivial, ⟨trivial, ⟨trivial, ⟨trivial, ⟨trivial, ⟨trivial, ⟨(Bq ⟨_, _, rfl, rfl⟩), ⟨trivial, ⟨trivial, ⟨trivial, ⟨trivial, ⟨trivial, ⟨(Bq ⟨_, _, rfl, rfl⟩), ⟨trivial, ⟨trivial, ⟨(Bq ⟨_, _, rfl, rfl⟩), ⟨(Bq ⟨_, _, rfl, rfl⟩), ⟨(Bq ⟨_, _, rfl, rfl⟩), trivial⟩⟩⟩⟩⟩⟩⟩⟩⟩⟩⟩⟩⟩⟩⟩⟩⟩⟩⟩⟩⟩⟩⟩⟩⟩), ⟨trivial, trivial⟩⟩⟩) ?_
     have e : C0 kd d x0 pre (y :: t) = ((⟨x0.fLast, (x0.fFl.take i.toNat ++ x0.fFl.drop (i.toNat + 1)), x0.fQ⟩ : Ci), Gx, true) := by
      clear s0 s202 s203 s207 s209 s211 s213 s214 s215 s216
      try simp only [decide_eq_true_eq, decide_eq_false_iff_not] at h13 h204 h205 h206
      try rw [show x0.fFl.take i.toNat ++ x0.fFl.drop (i.toNat + 1) = pre ++ t from by rw [he, hi]; simp]
      try rw [show x0.fFl.set (i).toNat ({ y with fSt := 3 } : Af) = pre ++ ({ y with fSt := 3 } : Af) :: t from by rw [he, hi]; simp]
      rw [C0]
      (repeat' split) <;> first | rfl | (exfalso; omega)
     rw [e]
     first | done | rfl
    ·refine C1 h206 ?_
     refine C1 h206 ?_
     refine Bx ?_
     refine C1 h206 ?_
     refine Ae ((decide (kd = 7))) (fun h217 => ?_) (fun h217 => ?_)
     ·refine C1 h217 ?_
      refine Ac (o' := 5) rfl ?_
      refine C1 h217 ?_
      refine Bp (c := .sc (.int .i64 y.fSt)) s203 (.here) rfl ?_
      refine C1 h217 ?_
      refine Bx ?_
      refine C1 h206 ?_
      refine Ld h217 ?_
      refine Hg h206 ?_
      refine Ae ((decide (y.fSt = 3))) (fun h218 => ?_) (fun h218 => ?_)
      ·refine C9 h218 ?_
       refine Ac (o' := 1) rfl ?_
       refine Bp (c := x7) s203 Do rfl ?_
       have s219 := s203.toShs Mn
       refine Jz (a := 0) (b := i) s219 ⟨_, _, rfl, rfl, rfl, rfl⟩ (.here) rfl rfl (by omega) (by first | omega | (simp; omega)) (by first | omega | (simp; omega)) Bf rfl fun y220 ly220 qy220 s221 => ?_
       refine Ac (o' := 1) rfl ?_
       refine Bp (c := x7) s221 Dn rfl ?_
       refine Jy (by omega) (by omega) ?_
       refine Jz (a := (i + 1)) (b := ((x0.fFl.length : Nat) : Int)) s221 ⟨_, _, rfl, rfl, rfl, rfl⟩ (.here) rfl rfl (by omega) (by first | omega | (simp; omega)) (by first | omega | (simp; omega)) Bf rfl fun y222 ly222 qy222 s223 => ?_
       refine N3 (i := i.toNat) s223 ⟨_, _, rfl, rfl, rfl, rfl⟩ (.here) (by omega) qy220 (by have h := qy222; rw [show (i + 1).toNat = i.toNat + 1 by omega, Int.toNat_natCast] at h; exact h) Bf Df rfl (by omega) fun x224 H lx224 s225 => ?_
       refine Ac (o' := 1) rfl ?_
       refine A5 (cs' := [.sc (.int .i64 x0.fLast), x224, x8]) s225 Dn (Ak lx224) rfl (A3 rfl) rfl fun H s226 => ?_
       refine Ao s226 (.here) rfl ?_
       refine E5 (cs := [.sc (.int .i64 0), .sc (.bool false), .sc (.int .i64 0), .sc (.bool false), .sc (.int .i64 0), .sc (.string (⟨#[]⟩)), .nl, .sc (.string (⟨#[]⟩)), .sc (.int .i64 0), .sc (.bool false), .sc (.int .i64 0), .sc (.bool false), .sc (.string (⟨#[]⟩)), .nl, .sc (.int .i64 0), .sc (.bool false), .sc (.bool false), .sc (.string (⟨#[]⟩)), .sc (.bool false), .nl, .sc (.int .i64 0), .sc (.bool false), .nl, .nl, .nl]) rfl ?_
       refine A5 (cs' := [.sc (.int .i64 x0.fLast), x224, x8]) s226 S9 (Ai (Aa rfl (Aa lx224 (Aa lx8 rfl)))) rfl (A3 rfl) rfl fun H s227 => ?_
       refine A5 (cs' := [.sc (.int .i64 0), .sc (.bool false), .sc (.int .i64 0), .sc (.bool false), .sc (.int .i64 0), .sc (.string (⟨#[]⟩)), .nl, .sc (.string (⟨#[]⟩)), .sc (.int .i64 0), .sc (.bool false), .sc (.int .i64 0), .sc (.bool false), .sc (.string (⟨#[]⟩)), .nl, .sc (.int .i64 0), .sc (.bool false), .sc (.bool false), .sc (.string (⟨#[]⟩)), .sc (.bool false), .nl, .sc (.int .i64 0), .sc (.bool false), .nl, .nl, .nl]) s227 S9 (Ai (Aa rfl (Aa rfl (Aa rfl (Aa rfl (Aa rfl (Aa rfl (Aa rfl (Aa rfl (Aa rfl (Aa rfl (Aa rfl (Aa rfl (Aa rfl (Aa rfl (Aa rfl (Aa rfl (Aa rfl (Aa rfl (Aa rfl (Aa rfl (Aa rfl (Aa rfl (Aa rfl (Aa rfl (Aa rfl rfl)))))))))))))))))))))))))) rfl (A3 rfl) rfl fun H s228 => ?_
       refine Ao s228 Do rfl ?_
       refine Ao s228 (.here) rfl ?_
       refine Ec (Dm s228 rfl (.agg ⟨_, rfl, rfl⟩ (.sc (.own Mn (.own I6 .nil))) (.agg ⟨_, rfl, rfl⟩ (.sc (.sc (.sc (.sc (.sc (.sc (.nl (.sc (.sc (.sc (.sc (.sc (.sc (.nl (.sc (.sc (.sc (.sc (.sc (.nl (.sc (.sc (.nl (.nl (.nl .nil))))))))))))))))))))))))) (.sc .nil))) ⟨(Em ⟨_, rfl, rfl⟩ ⟨trivial, ⟨(Av (Cd (x0.fFl.take i.toNat ++ x0.fFl.drop (i.toNat + 1))) (by decide)), ⟨(Av (Eb x0.fQ) (by decide)), trivial⟩⟩⟩), ⟨(Em ⟨_, rfl, rfl⟩ ⟨trivial, ⟨trivial, ⟨trivial, ⟨trivial, ⟨trivial, ⟨trivial, ⟨(Bq ⟨_, _, rfl, rfl⟩), ⟨trivial, ⟨trivial, ⟨trivial, ⟨trivial, ⟨trivial, ⟨trivial, ⟨(Bq ⟨_, _, rfl, rfl⟩), ⟨trivial, ⟨trivial, ⟨trivial, ⟨trivial, ⟨trivial, ⟨(Bq ⟨_, _, rfl, rfl⟩), ⟨trivial, ⟨trivial, ⟨(Bq ⟨_, _, rfl, rfl⟩), ⟨(Bq ⟨_, _, rfl, rfl⟩), ⟨(Bq ⟨_, _, rfl, rfl⟩), trivial⟩⟩⟩⟩⟩⟩⟩⟩⟩⟩⟩⟩⟩⟩⟩⟩⟩⟩⟩⟩⟩⟩⟩⟩⟩), ⟨trivial, trivial⟩⟩⟩) ?_
       have e : C0 kd d x0 pre (y :: t) = ((⟨x0.fLast, (x0.fFl.take i.toNat ++ x0.fFl.drop (i.toNat + 1)), x0.fQ⟩ : Ci), Gx, true) := by
        clear s0 s202 s203 s219 s221 s223 s225 s226 s227 s228
        try simp only [decide_eq_true_eq, decide_eq_false_iff_not] at h13 h204 h205 h206 h217 h218
        try rw [show x0.fFl.take i.toNat ++ x0.fFl.drop (i.toNat + 1) = pre ++ t from by rw [he, hi]; simp]
        try rw [show x0.fFl.set (i).toNat ({ y with fSt := 3 } : Af) = pre ++ ({ y with fSt := 3 } : Af) :: t from by rw [he, hi]; simp]
        rw [C0]
        (repeat' split) <;> first | rfl | (exfalso; omega)
       rw [e]
       first | done | rfl
      ·refine B5 h218 ?_
       refine Bx ?_
       refine Ae ((decide (kd = 5))) (fun h229 => ?_) (fun h229 => ?_)
       ·refine C1 h229 ?_
        refine Ac (o' := 5) rfl ?_
        refine C1 h229 ?_
        refine Bp (c := .sc (.int .i64 y.fSt)) s203 (.here) rfl ?_
        refine C1 h229 ?_
        refine N6 ?_
        refine Ld h229 ?_
        refine C9 (nT h206) ?_
        refine Ac (o' := 1) rfl ?_
        refine Bp (c := x7) s203 Do rfl ?_
        have he230 : (x0.fFl)[(i).toNat]? = some y := by rw [he, hi]; simp
        refine Le (y := y) (y' := ({ y with fSt := 3 } : Af)) (k := 5) (v := (.int .i64 y.fSt)) s203 ⟨_, _, rfl, rfl, rfl, rfl⟩ Mn (by omega) he230 Bf (by omega) rfl rfl rfl fun H s231 => ?_
        refine Ao s231 Dn rfl ?_
        have AiL := Ox (n + 8) (by omega) d
        refine Hs s231 rfl (.cons .sc (.cons .sc .nil)) (AiL) ⟨_, rfl, rfl⟩ (G0 _) ?_
        rintro _ _ H ⟨x233, x234, x235, x236, x237, x238, lx233, lx234, lx235, lx236, lx237, lx238, rfl, rfl⟩ s239
        simp only [List.nil_append, List.cons_append] at s239
        refine A5 (cs' := [.sc (.int .i64 x0.fLast), x7, x8]) s239 Xh (Ai (Aa rfl (Aa lx7 (Aa lx8 rfl)))) rfl (A3 rfl) rfl fun H s240 => ?_
        refine A5 (cs' := [.sc (.int .i64 ((Au d).fType)), .sc (.bool (Au d).fDup), .sc (.int .i64 ((Au d).fQos)), .sc (.bool (Au d).fRetain), .sc (.int .i64 ((Au d).fId)), .sc (.string ((Au d).fTopic)), x233, .sc (.string ((Au d).fClient)), .sc (.int .i64 ((Au d).fLevel)), .sc (.bool (Au d).fClean), .sc (.int .i64 ((Au d).fKeep)), .sc (.bool (Au d).fHasWill), .sc (.string ((Au d).fWTopic)), x234, .sc (.int .i64 ((Au d).fWQos)), .sc (.bool (Au d).fWRetain), .sc (.bool (Au d).fHasUser), .sc (.string ((Au d).fUser)), .sc (.bool (Au d).fHasPass), x235, .sc (.int .i64 ((Au d).fCode)), .sc (.bool (Au d).fPresent), x236, x237, x238]) s240 Xh (Ai (Aa rfl (Aa rfl (Aa rfl (Aa rfl (Aa rfl (Aa rfl (Aa lx233 (Aa rfl (Aa rfl (Aa rfl (Aa rfl (Aa rfl (Aa rfl (Aa lx234 (Aa rfl (Aa rfl (Aa rfl (Aa rfl (Aa rfl (Aa lx235 (Aa rfl (Aa rfl (Aa lx236 (Aa lx237 (Aa lx238 rfl)))))))))))))))))))))))))) rfl (A3 rfl) rfl fun H s241 => ?_
        refine Ao s241 Do rfl ?_
        refine Ao s241 (.here) rfl ?_
        refine Ec (Dm s241 rfl (.agg ⟨_, rfl, rfl⟩ (.sc (.own zP8 (.own Qj .nil))) (.agg ⟨_, rfl, rfl⟩ (.sc (.sc (.sc (.sc (.sc (.sc (.own zP7 (.sc (.sc (.sc (.sc (.sc (.sc (.own zP6 (.sc (.sc (.sc (.sc (.sc (.own S9 (.sc (.sc (.own I6 (.own Mn (.own Dn .nil))))))))))))))))))))))))) (.sc .nil))) ⟨(Em ⟨_, rfl, rfl⟩ ⟨trivial, ⟨(Av (Cd (x0.fFl.set (i).toNat ({ y with fSt := 3 } : Af))) (by decide)), ⟨(Av (Eb x0.fQ) (by decide)), trivial⟩⟩⟩), ⟨(Em ⟨_, rfl, rfl⟩ ⟨trivial, ⟨trivial, ⟨trivial, ⟨trivial, ⟨trivial, ⟨trivial, ⟨(Av (Hm ((Au d).fBody)) (by decide)), ⟨trivial, ⟨trivial, ⟨trivial, ⟨trivial, ⟨trivial, ⟨trivial, ⟨(Av (Hm ((Au d).fWBody)) (by decide)), ⟨trivial, ⟨trivial, ⟨trivial, ⟨trivial, ⟨trivial, ⟨(Av (Hm ((Au d).fPass)) (by decide)), ⟨trivial, ⟨trivial, ⟨(Av (Ia ((Au d).fWants)) (by decide)), ⟨(Av (U1 ((Au d).fNames)) (by decide)), ⟨(Av (Uz ((Au d).fCodes)) (by decide)), trivial⟩⟩⟩⟩⟩⟩⟩⟩⟩⟩⟩⟩⟩⟩⟩⟩⟩⟩⟩⟩⟩⟩⟩⟩⟩), ⟨trivial, trivial⟩⟩⟩) ?_
        have e : C0 kd d x0 pre (y :: t) = ((⟨x0.fLast, (x0.fFl.set (i).toNat ({ y with fSt := 3 } : Af)), x0.fQ⟩ : Ci), (Au d), true) := by
         clear s0 s202 s203 s231 s239 s240 s241
         try simp only [decide_eq_true_eq, decide_eq_false_iff_not] at h13 h204 h205 h206 h217 h218 h229
         try rw [show x0.fFl.take i.toNat ++ x0.fFl.drop (i.toNat + 1) = pre ++ t from by rw [he, hi]; simp]
         try rw [show x0.fFl.set (i).toNat ({ y with fSt := 3 } : Af) = pre ++ ({ y with fSt := 3 } : Af) :: t from by rw [he, hi]; simp]
         rw [C0]
         (repeat' split) <;> first | rfl | (exfalso; omega)
        rw [e]
        first | done | rfl
       ·refine El h229 ?_
        refine El h229 ?_
        refine El h229 ?_
        refine Hg h229 ?_
        refine B5 rfl ?_
        refine Jy (by omega) (by omega) ?_
        have e242 : C0 kd d x0 pre (y :: t) = C0 kd d x0 (pre ++ [y]) t := by
         clear s0 s202 s203
         try simp only [decide_eq_true_eq, decide_eq_false_iff_not, bne_iff_ne, beq_iff_eq, beq_eq_false_iff_ne] at h13 h204 h205 h206 h217 h218 h229
         rw [C0]; (repeat' split) <;> first | rfl | (exfalso; omega)
        rw [e242]
        exact Fk n hn x0 kd d b0 h13  t (pre ++ [y]) m _ i10 i5 i3 i1 x8 x7 _ (by rw [he]; simp) (by rw [hi]; simp) (by simpa using hm) lx8 lx7 (by simpa only [List.map_append, List.map_cons, List.map_nil] using (s203.sel (.cons Do (.cons Do (.cons Do (.cons Do (.cons Do (.cons Do .nil))))))))
     ·refine El h217 ?_
      refine El h217 ?_
      refine El h217 ?_
      refine C1 h206 ?_
      refine Hg h217 ?_
      refine Hg h206 ?_
      refine B5 rfl ?_
      refine Bx ?_
      refine Ae ((decide (kd = 5))) (fun h243 => ?_) (fun h243 => ?_)
      ·refine C1 h243 ?_
       refine Ac (o' := 5) rfl ?_
       refine C1 h243 ?_
       refine Bp (c := .sc (.int .i64 y.fSt)) s203 (.here) rfl ?_
       refine C1 h243 ?_
       refine N6 ?_
       refine Ld h243 ?_
       refine C9 (nT h206) ?_
       refine Ac (o' := 1) rfl ?_
       refine Bp (c := x7) s203 Do rfl ?_
       have he244 : (x0.fFl)[(i).toNat]? = some y := by rw [he, hi]; simp
       refine Le (y := y) (y' := ({ y with fSt := 3 } : Af)) (k := 5) (v := (.int .i64 y.fSt)) s203 ⟨_, _, rfl, rfl, rfl, rfl⟩ Mn (by omega) he244 Bf (by omega) rfl rfl rfl fun H s245 => ?_
       refine Ao s245 Dn rfl ?_
       have c246 := Ox (n + 8) (by omega) d
       refine Hs s245 rfl (.cons .sc (.cons .sc .nil)) (c246) ⟨_, rfl, rfl⟩ (G0 _) ?_
       rintro _ _ H ⟨x247, x248, x249, x250, x251, x252, lx247, lx248, lx249, lx250, lx251, lx252, rfl, rfl⟩ s253
       simp only [List.nil_append, List.cons_append] at s253
       refine A5 (cs' := [.sc (.int .i64 x0.fLast), x7, x8]) s253 Xh (Ai (Aa rfl (Aa lx7 (Aa lx8 rfl)))) rfl (A3 rfl) rfl fun H s254 => ?_
       refine A5 (cs' := [.sc (.int .i64 ((Au d).fType)), .sc (.bool (Au d).fDup), .sc (.int .i64 ((Au d).fQos)), .sc (.bool (Au d).fRetain), .sc (.int .i64 ((Au d).fId)), .sc (.string ((Au d).fTopic)), x247, .sc (.string ((Au d).fClient)), .sc (.int .i64 ((Au d).fLevel)), .sc (.bool (Au d).fClean), .sc (.int .i64 ((Au d).fKeep)), .sc (.bool (Au d).fHasWill), .sc (.string ((Au d).fWTopic)), x248, .sc (.int .i64 ((Au d).fWQos)), .sc (.bool (Au d).fWRetain), .sc (.bool (Au d).fHasUser), .sc (.string ((Au d).fUser)), .sc (.bool (Au d).fHasPass), x249, .sc (.int .i64 ((Au d).fCode)), .sc (.bool (Au d).fPresent), x250, x251, x252]) s254 Xh (Ai (Aa rfl (Aa rfl (Aa rfl (Aa rfl (Aa rfl (Aa rfl (Aa lx247 (Aa rfl (Aa rfl (Aa rfl (Aa rfl (Aa rfl (Aa rfl (Aa lx248 (Aa rfl (Aa rfl (Aa rfl (Aa rfl (Aa rfl (Aa lx249 (Aa rfl (Aa rfl (Aa lx250 (Aa lx251 (Aa lx252 rfl)))))))))))))))))))))))))) rfl (A3 rfl) rfl fun H s255 => ?_
       refine Ao s255 Do rfl ?_
       refine Ao s255 (.here) rfl ?_
       refine Ec (Dm s255 rfl (.agg ⟨_, rfl, rfl⟩ (.sc (.own zP8 (.own Qj .nil))) (.agg ⟨_, rfl, rfl⟩ (.sc (.sc (.sc (.sc (.sc (.sc (.own zP7 (.sc (.sc (.sc (.sc (.sc (.sc (.own zP6 (.sc (.sc (.sc (.sc (.sc (.own S9 (.sc (.sc (.own I6 (.own Mn (.own Dn .nil))))))))))))))))))))))))) (.sc .nil))) ⟨(Em ⟨_, rfl, rfl⟩ ⟨trivial, ⟨(Av (Cd (x0.fFl.set (i).toNat ({ y with fSt := 3 } : Af))) (by decide)), ⟨(Av (Eb x0.fQ) (by decide)), trivial⟩⟩⟩), ⟨(Em ⟨_, rfl, rfl⟩ ⟨trivial, ⟨trivial, ⟨trivial, ⟨trivial, ⟨trivial, ⟨trivial, ⟨(Av (Hm ((Au d).fBody)) (by decide)), ⟨trivial, ⟨trivial, ⟨trivial, ⟨trivial, ⟨trivial, ⟨trivial, ⟨(Av (Hm ((Au d).fWBody)) (by decide)), ⟨trivial, ⟨trivial, ⟨trivial, ⟨trivial, ⟨trivial, ⟨(Av (Hm ((Au d).fPass)) (by decide)), ⟨trivial, ⟨trivial, ⟨(Av (Ia ((Au d).fWants)) (by decide)), ⟨(Av (U1 ((Au d).fNames)) (by decide)), ⟨(Av (Uz ((Au d).fCodes)) (by decide)), trivial⟩⟩⟩⟩⟩⟩⟩⟩⟩⟩⟩⟩⟩⟩⟩⟩⟩⟩⟩⟩⟩⟩⟩⟩⟩), ⟨trivial, trivial⟩⟩⟩) ?_
       have e : C0 kd d x0 pre (y :: t) = ((⟨x0.fLast, (x0.fFl.set (i).toNat ({ y with fSt := 3 } : Af)), x0.fQ⟩ : Ci), (Au d), true) := by
        clear s0 s202 s203 s245 s253 s254 s255
        try simp only [decide_eq_true_eq, decide_eq_false_iff_not] at h13 h204 h205 h206 h217 h243
        try rw [show x0.fFl.take i.toNat ++ x0.fFl.drop (i.toNat + 1) = pre ++ t from by rw [he, hi]; simp]
        try rw [show x0.fFl.set (i).toNat ({ y with fSt := 3 } : Af) = pre ++ ({ y with fSt := 3 } : Af) :: t from by rw [he, hi]; simp]
        rw [C0]
        (repeat' split) <;> first | rfl | (exfalso; omega)
       rw [e]
       first | done | rfl
      ·refine El h243 ?_
       refine El h243 ?_
       refine El h243 ?_
       refine Hg h243 ?_
       refine B5 rfl ?_
       refine Jy (by omega) (by omega) ?_
       have e256 : C0 kd d x0 pre (y :: t) = C0 kd d x0 (pre ++ [y]) t := by
        clear s0 s202 s203
        try simp only [decide_eq_true_eq, decide_eq_false_iff_not, bne_iff_ne, beq_iff_eq, beq_eq_false_iff_ne] at h13 h204 h205 h206 h217 h243
        rw [C0]; (repeat' split) <;> first | rfl | (exfalso; omega)
       rw [e256]
       exact Fk n hn x0 kd d b0 h13  t (pre ++ [y]) m _ i10 i5 i3 i1 x8 x7 _ (by rw [he]; simp) (by rw [hi]; simp) (by simpa using hm) lx8 lx7 (by simpa only [List.map_append, List.map_cons, List.map_nil] using (s203.sel (.cons Do (.cons Do (.cons Do (.cons Do (.cons Do (.cons Do .nil))))))))
   ·refine El h205 ?_
    refine El h205 ?_
    refine El h205 ?_
    refine Hg h205 ?_
    refine C1 rfl ?_
    refine C1 rfl ?_
    refine Bx ?_
    refine C1 rfl ?_
    refine Ae ((decide (kd = 7))) (fun h257 => ?_) (fun h257 => ?_)
    ·refine C1 h257 ?_
     refine Ac (o' := 5) rfl ?_
     refine C1 h257 ?_
     refine Bp (c := .sc (.int .i64 y.fSt)) s203 (.here) rfl ?_
     refine C1 h257 ?_
     refine Bx ?_
     refine C1 rfl ?_
     refine Ld h257 ?_
     refine Hg rfl ?_
     refine Ae ((decide (y.fSt = 3))) (fun h258 => ?_) (fun h258 => ?_)
     ·refine C9 h258 ?_
      refine Ac (o' := 1) rfl ?_
      refine Bp (c := x7) s203 Do rfl ?_
      have s259 := s203.toShs Mn
      refine Jz (a := 0) (b := i) s259 ⟨_, _, rfl, rfl, rfl, rfl⟩ (.here) rfl rfl (by omega) (by first | omega | (simp; omega)) (by first | omega | (simp; omega)) Bf rfl fun y260 ly260 qy260 s261 => ?_
      refine Ac (o' := 1) rfl ?_
      refine Bp (c := x7) s261 Dn rfl ?_
      refine Jy (by omega) (by omega) ?_
      refine Jz (a := (i + 1)) (b := ((x0.fFl.length : Nat) : Int)) s261 ⟨_, _, rfl, rfl, rfl, rfl⟩ (.here) rfl rfl (by omega) (by first | omega | (simp; omega)) (by first | omega | (simp; omega)) Bf rfl fun y262 ly262 qy262 s263 => ?_
      refine N3 (i := i.toNat) s263 ⟨_, _, rfl, rfl, rfl, rfl⟩ (.here) (by omega) qy260 (by have h := qy262; rw [show (i + 1).toNat = i.toNat + 1 by omega, Int.toNat_natCast] at h; exact h) Bf Df rfl (by omega) fun x264 H lx264 s265 => ?_
      refine Ac (o' := 1) rfl ?_
      refine A5 (cs' := [.sc (.int .i64 x0.fLast), x264, x8]) s265 Dn (Ak lx264) rfl (A3 rfl) rfl fun H s266 => ?_
      refine Ao s266 (.here) rfl ?_
      refine E5 (cs := [.sc (.int .i64 0), .sc (.bool false), .sc (.int .i64 0), .sc (.bool false), .sc (.int .i64 0), .sc (.string (⟨#[]⟩)), .nl, .sc (.string (⟨#[]⟩)), .sc (.int .i64 0), .sc (.bool false), .sc (.int .i64 0), .sc (.bool false), .sc (.string (⟨#[]⟩)), .nl, .sc (.int .i64 0), .sc (.bool false), .sc (.bool false), .sc (.string (⟨#[]⟩)), .sc (.bool false), .nl, .sc (.int .i64 0), .sc (.bool false), .nl, .nl, .nl]) rfl ?_
      refine A5 (cs' := [.sc (.int .i64 x0.fLast), x264, x8]) s266 S9 (Ai (Aa rfl (Aa lx264 (Aa lx8 rfl)))) rfl (A3 rfl) rfl fun H s267 => ?_
      refine A5 (cs' := [.sc (.int .i64 0), .sc (.bool false), .sc (.int .i64 0), .sc (.bool false), .sc (.int .i64 0), .sc (.string (⟨#[]⟩)), .nl, .sc (.string (⟨#[]⟩)), .sc (.int .i64 0), .sc (.bool false), .sc (.int .i64 0), .sc (.bool false), .sc (.string (⟨#[]⟩)), .nl, .sc (.int .i64 0), .sc (.bool false), .sc (.bool false), .sc (.string (⟨#[]⟩)), .sc (.bool false), .nl, .sc (.int .i64 0), .sc (.bool false), .nl, .nl, .nl]) s267 S9 (Ai (Aa rfl (Aa rfl (Aa rfl (Aa rfl (Aa rfl (Aa rfl (Aa rfl (Aa rfl (Aa rfl (Aa rfl (Aa rfl (Aa rfl (Aa rfl (Aa rfl (Aa rfl (Aa rfl (Aa rfl (Aa rfl (Aa rfl (Aa rfl (Aa rfl (Aa rfl (Aa rfl (Aa rfl (Aa rfl rfl)))))))))))))))))))))))))) rfl (A3 rfl) rfl fun H s268 => ?_
      refine Ao s268 Do rfl ?_
      refine Ao s268 (.here) rfl ?_
      refine Ec (Dm s268 rfl (.agg ⟨_, rfl, rfl⟩ (.sc (.own Mn (.own I6 .nil))) (.agg ⟨_, rfl, rfl⟩ (.sc (.sc (.sc (.sc (.sc (.sc (.nl (.sc (.sc (.sc (.sc (.sc (.sc (.nl (.sc (.sc (.sc (.sc (.sc (.nl (.sc (.sc (.nl (.nl (.nl .nil))))))))))))))))))))))))) (.sc .nil))) ⟨(Em ⟨_, rfl, rfl⟩ ⟨trivial, ⟨(Av (Cd (x0.fFl.take i.toNat ++ x0.fFl.drop (i.toNat + 1))) (by decide)), ⟨(Av (Eb x0.fQ) (by decide)), trivial⟩⟩⟩), ⟨(Em ⟨_, rfl, rfl⟩ ⟨trivial, ⟨trivial, ⟨trivial, ⟨trivial, ⟨trivial, ⟨trivial, ⟨(Bq ⟨_, _, rfl, rfl⟩), ⟨trivial, ⟨trivial, ⟨trivial, ⟨trivial, ⟨trivial, ⟨trivial, ⟨(Bq ⟨_, _, rfl, rfl⟩), ⟨trivial, ⟨trivial, ⟨trivial, ⟨trivial, ⟨trivial, ⟨(Bq ⟨_, _, rfl, rfl⟩), ⟨trivial, ⟨trivial, ⟨(Bq ⟨_, _, rfl, rfl⟩), ⟨(Bq ⟨_, _, rfl, rfl⟩), ⟨(Bq ⟨_, _, rfl, rfl⟩), trivial⟩⟩⟩⟩⟩⟩⟩⟩⟩⟩⟩⟩⟩⟩⟩⟩⟩⟩⟩⟩⟩⟩⟩⟩⟩), ⟨trivial, trivial⟩⟩⟩) ?_
      have e : C0 kd d x0 pre (y :: t) = ((⟨x0.fLast, (x0.fFl.take i.toNat ++ x0.fFl.drop (i.toNat + 1)), x0.fQ⟩ : Ci), Gx, true) := by
       clear s0 s202 s203 s259 s261 s263 s265 s266 s267 s268
       try simp only [decide_eq_true_eq, decide_eq_false_iff_not] at h13 h204 h205 h257 h258
       try rw [show x0.fFl.take i.toNat ++ x0.fFl.drop (i.toNat + 1) = pre ++ t from by rw [he, hi]; simp]
       try rw [show x0.fFl.set (i).toNat ({ y with fSt := 3 } : Af) = pre ++ ({ y with fSt := 3 } : Af) :: t from by rw [he, hi]; simp]
       rw [C0]
       (repeat' split) <;> first | rfl | (exfalso; omega)
      rw [e]
      first | done | rfl
     ·refine B5 h258 ?_
      refine Bx ?_
      refine Ae ((decide (kd = 5))) (fun h269 => ?_) (fun h269 => ?_)
      ·refine C1 h269 ?_
       refine Ac (o' := 5) rfl ?_
       refine C1 h269 ?_
       refine Bp (c := .sc (.int .i64 y.fSt)) s203 (.here) rfl ?_
       refine C1 h269 ?_
       refine N6 ?_
       refine Ld h269 ?_
       refine Ae ((decide (y.fSt = 1))) (fun h270 => ?_) (fun h270 => ?_)
       ·refine B5 (nF h270) ?_
        refine Jy (by omega) (by omega) ?_
        have e271 : C0 kd d x0 pre (y :: t) = C0 kd d x0 (pre ++ [y]) t := by
         clear s0 s202 s203
         try simp only [decide_eq_true_eq, decide_eq_false_iff_not, bne_iff_ne, beq_iff_eq, beq_eq_false_iff_ne] at h13 h204 h205 h257 h258 h269 h270
         rw [C0]; (repeat' split) <;> first | rfl | (exfalso; omega)
        rw [e271]
        exact Fk n hn x0 kd d b0 h13  t (pre ++ [y]) m _ i10 i5 i3 i1 x8 x7 _ (by rw [he]; simp) (by rw [hi]; simp) (by simpa using hm) lx8 lx7 (by simpa only [List.map_append, List.map_cons, List.map_nil] using (s203.sel (.cons Do (.cons Do (.cons Do (.cons Do (.cons Do (.cons Do .nil))))))))
       ·refine C9 (nT h270) ?_
        refine Ac (o' := 1) rfl ?_
        refine Bp (c := x7) s203 Do rfl ?_
        have he272 : (x0.fFl)[(i).toNat]? = some y := by rw [he, hi]; simp
        refine Le (y := y) (y' := ({ y with fSt := 3 } : Af)) (k := 5) (v := (.int .i64 y.fSt)) s203 ⟨_, _, rfl, rfl, rfl, rfl⟩ Mn (by omega) he272 Bf (by omega) rfl rfl rfl fun H s273 => ?_
        refine Ao s273 Dn rfl ?_
        have Adh := Ox (n + 8) (by omega) d
        refine Hs s273 rfl (.cons .sc (.cons .sc .nil)) (Adh) ⟨_, rfl, rfl⟩ (G0 _) ?_
        rintro _ _ H ⟨x275, x276, x277, x278, x279, x280, lx275, lx276, lx277, lx278, lx279, lx280, rfl, rfl⟩ s281
        simp only [List.nil_append, List.cons_append] at s281
        refine A5 (cs' := [.sc (.int .i64 x0.fLast), x7, x8]) s281 Xh (Ai (Aa rfl (Aa lx7 (Aa lx8 rfl)))) rfl (A3 rfl) rfl fun H s282 => ?_
        refine A5 (cs' := [.sc (.int .i64 ((Au d).fType)), .sc (.bool (Au d).fDup), .sc (.int .i64 ((Au d).fQos)), .sc (.bool (Au d).fRetain), .sc (.int .i64 ((Au d).fId)), .sc (.string ((Au d).fTopic)), x275, .sc (.string ((Au d).fClient)), .sc (.int .i64 ((Au d).fLevel)), .sc (.bool (Au d).fClean), .sc (.int .i64 ((Au d).fKeep)), .sc (.bool (Au d).fHasWill), .sc (.string ((Au d).fWTopic)), x276, .sc (.int .i64 ((Au d).fWQos)), .sc (.bool (Au d).fWRetain), .sc (.bool (Au d).fHasUser), .sc (.string ((Au d).fUser)), .sc (.bool (Au d).fHasPass), x277, .sc (.int .i64 ((Au d).fCode)), .sc (.bool (Au d).fPresent), x278, x279, x280]) s282 Xh (Ai (Aa rfl (Aa rfl (Aa rfl (Aa rfl (Aa rfl (Aa rfl (Aa lx275 (Aa rfl (Aa rfl (Aa rfl (Aa rfl (Aa rfl (Aa rfl (Aa lx276 (Aa rfl (Aa rfl (Aa rfl (Aa rfl (Aa rfl (Aa lx277 (Aa rfl (Aa rfl (Aa lx278 (Aa lx279 (Aa lx280 rfl)))))))))))))))))))))))))) rfl (A3 rfl) rfl fun H s283 => ?_
        refine Ao s283 Do rfl ?_
        refine Ao s283 (.here) rfl ?_
        refine Ec (Dm s283 rfl (.agg ⟨_, rfl, rfl⟩ (.sc (.own zP8 (.own Qj .nil))) (.agg ⟨_, rfl, rfl⟩ (.sc (.sc (.sc (.sc (.sc (.sc (.own zP7 (.sc (.sc (.sc (.sc (.sc (.sc (.own zP6 (.sc (.sc (.sc (.sc (.sc (.own S9 (.sc (.sc (.own I6 (.own Mn (.own Dn .nil))))))))))))))))))))))))) (.sc .nil))) ⟨(Em ⟨_, rfl, rfl⟩ ⟨trivial, ⟨(Av (Cd (x0.fFl.set (i).toNat ({ y with fSt := 3 } : Af))) (by decide)), ⟨(Av (Eb x0.fQ) (by decide)), trivial⟩⟩⟩), ⟨(Em ⟨_, rfl, rfl⟩ ⟨trivial, ⟨trivial, ⟨trivial, ⟨trivial, ⟨trivial, ⟨trivial, ⟨(Av (Hm ((Au d).fBody)) (by decide)), ⟨trivial, ⟨trivial, ⟨trivial, ⟨trivial, ⟨trivial, ⟨trivial, ⟨(Av (Hm ((Au d).fWBody)) (by decide)), ⟨trivial, ⟨trivial, ⟨trivial, ⟨trivial, ⟨trivial, ⟨(Av (Hm ((Au d).fPass)) (by decide)), ⟨trivial, ⟨trivial, ⟨(Av (Ia ((Au d).fWants)) (by decide)), ⟨(Av (U1 ((Au d).fNames)) (by decide)), ⟨(Av (Uz ((Au d).fCodes)) (by decide)), trivial⟩⟩⟩⟩⟩⟩⟩⟩⟩⟩⟩⟩⟩⟩⟩⟩⟩⟩⟩⟩⟩⟩⟩⟩⟩), ⟨trivial, trivial⟩⟩⟩) ?_
        have e : C0 kd d x0 pre (y :: t) = ((⟨x0.fLast, (x0.fFl.set (i).toNat ({ y with fSt := 3 } : Af)), x0.fQ⟩ : Ci), (Au d), true) := by
         clear s0 s202 s203 s273 s281 s282 s283
         try simp only [decide_eq_true_eq, decide_eq_false_iff_not] at h13 h204 h205 h257 h258 h269 h270
         try rw [show x0.fFl.take i.toNat ++ x0.fFl.drop (i.toNat + 1) = pre ++ t from by rw [he, hi]; simp]
         try rw [show x0.fFl.set (i).toNat ({ y with fSt := 3 } : Af) = pre ++ ({ y with fSt := 3 } : Af) :: t from by rw [he, hi]; simp]
         rw [C0]
         (repeat' split) <;> first | rfl | (exfalso; omega)
        rw [e]
        first | done | rfl
      ·refine El h269 ?_
       refine El h269 ?_
       refine El h269 ?_
       refine Hg h269 ?_
       refine B5 rfl ?_
       refine Jy (by omega) (by omega) ?_
       have e284 : C0 kd d x0 pre (y :: t) = C0 kd d x0 (pre ++ [y]) t := by
        clear s0 s202 s203
        try simp only [decide_eq_true_eq, decide_eq_false_iff_not, bne_iff_ne, beq_iff_eq, beq_eq_false_iff_ne] at h13 h204 h205 h257 h258 h269
        rw [C0]; (repeat' split) <;> first | rfl | (exfalso; omega)
       rw [e284]
       exact Fk n hn x0 kd d b0 h13  t (pre ++ [y]) m _ i10 i5 i3 i1 x8 x7 _ (by rw [he]; simp) (by rw [hi]; simp) (by simpa using hm) lx8 lx7 (by simpa only [List.map_append, List.map_cons, List.map_nil] using (s203.sel (.cons Do (.cons Do (.cons Do (.cons Do (.cons Do (.cons Do .nil))))))))
    ·refine El h257 ?_
     refine El h257 ?_
     refine El h257 ?_
     refine C1 rfl ?_
     refine Hg h257 ?_
     refine Hg rfl ?_
     refine B5 rfl ?_
     refine Bx ?_
     refine Ae ((decide (kd = 5))) (fun h285 => ?_) (fun h285 => ?_)
     ·refine C1 h285 ?_
      refine Ac (o' := 5) rfl ?_
      refine C1 h285 ?_
      refine Bp (c := .sc (.int .i64 y.fSt)) s203 (.here) rfl ?_
      refine C1 h285 ?_
      refine N6 ?_
      refine Ld h285 ?_
      refine Ae ((decide (y.fSt = 1))) (fun h286 => ?_) (fun h286 => ?_)
      ·refine B5 (nF h286) ?_
       refine Jy (by omega) (by omega) ?_
       have e287 : C0 kd d x0 pre (y :: t) = C0 kd d x0 (pre ++ [y]) t := by
        clear s0 s202 s203
        try simp only [decide_eq_true_eq, decide_eq_false_iff_not, bne_iff_ne, beq_iff_eq, beq_eq_false_iff_ne] at h13 h204 h205 h257 h285 h286
        rw [C0]; (repeat' split) <;> first | rfl | (exfalso; omega)
       rw [e287]
       exact Fk n hn x0 kd d b0 h13  t (pre ++ [y]) m _ i10 i5 i3 i1 x8 x7 _ (by rw [he]; simp) (by rw [hi]; simp) (by simpa using hm) lx8 lx7 (by simpa only [List.map_append, List.map_cons, List.map_nil] using (s203.sel (.cons Do (.cons Do (.cons Do (.cons Do (.cons Do (.cons Do .nil))))))))
      ·refine C9 (nT h286) ?_
       refine Ac (o' := 1) rfl ?_
       refine Bp (c := x7) s203 Do rfl ?_
       have he288 : (x0.fFl)[(i).toNat]? = some y := by rw [he, hi]; simp
       refine Le (y := y) (y' := ({ y with fSt := 3 } : Af)) (k := 5) (v := (.int .i64 y.fSt)) s203 ⟨_, _, rfl, rfl, rfl, rfl⟩ Mn (by omega) he288 Bf (by omega) rfl rfl rfl fun H s289 => ?_
       refine Ao s289 Dn rfl ?_
       have c290 := Ox (n + 8) (by omega) d
       refine Hs s289 rfl (.cons .sc (.cons .sc .nil)) (c290) ⟨_, rfl, rfl⟩ (G0 _) ?_
       rintro _ _ H ⟨x291, x292, x293, x294, x295, x296, lx291, lx292, lx293, lx294, lx295, lx296, rfl, rfl⟩ s297
       simp only [List.nil_append, List.cons_append] at s297
       refine A5 (cs' := [.sc (.int .i64 x0.fLast), x7, x8]) s297 Xh (Ai (Aa rfl (Aa lx7 (Aa lx8 rfl)))) rfl (A3 rfl) rfl fun H s298 => ?_
       refine A5 (cs' := [.sc (.int .i64 ((Au d).fType)), .sc (.bool (Au d).fDup), .sc (.int .i64 ((Au d).fQos)), .sc (.bool (Au d).fRetain), .sc (.int .i64 ((Au d).fId)), .sc (.string ((Au d).fTopic)), x291, .sc (.string ((Au d).fClient)), .sc (.int .i64 ((Au d).fLevel)), .sc (.bool (Au d).fClean), .sc (.int .i64 ((Au d).fKeep)), .sc (.bool (Au d).fHasWill), .sc (.string ((Au d).fWTopic)), x292, .sc (.int .i64 ((Au d).fWQos)), .sc (.bool (Au d).fWRetain), .sc (.bool (Au d).fHasUser), .sc (.string ((Au d).fUser)), .sc (.bool (Au d).fHasPass), x293, .sc (.int .i64 ((Au d).fCode)), .sc (.bool (Au d).fPresent), x294, x295, x296]) s298 Xh (Ai (Aa rfl (Aa rfl (Aa rfl (Aa rfl (Aa rfl (Aa rfl (Aa lx291 (Aa rfl (Aa rfl (Aa rfl (Aa rfl (Aa rfl (Aa rfl (Aa lx292 (Aa rfl (Aa rfl (Aa rfl (Aa rfl (Aa rfl (Aa lx293 (Aa rfl (Aa rfl (Aa lx294 (Aa lx295 (Aa lx296 rfl)))))))))))))))))))))))))) rfl (A3 rfl) rfl fun H s299 => ?_
       refine Ao s299 Do rfl ?_
       refine Ao s299 (.here) rfl ?_
       refine Ec (Dm s299 rfl (.agg ⟨_, rfl, rfl⟩ (.sc (.own zP8 (.own Qj .nil))) (.agg ⟨_, rfl, rfl⟩ (.sc (.sc (.sc (.sc (.sc (.sc (.own zP7 (.sc (.sc (.sc (.sc (.sc (.sc (.own zP6 (.sc (.sc (.sc (.sc (.sc (.own S9 (.sc (.sc (.own I6 (.own Mn (.own Dn .nil))))))))))))))))))))))))) (.sc .nil))) ⟨(Em ⟨_, rfl, rfl⟩ ⟨trivial, ⟨(Av (Cd (x0.fFl.set (i).toNat ({ y with fSt := 3 } : Af))) (by decide)), ⟨(Av (Eb x0.fQ) (by decide)), trivial⟩⟩⟩), ⟨(Em ⟨_, rfl, rfl⟩ ⟨trivial, ⟨trivial, ⟨trivial, ⟨trivial, ⟨trivial, ⟨trivial, ⟨(Av (Hm ((Au d).fBody)) (by decide)), ⟨trivial, ⟨trivial, ⟨trivial, ⟨trivial, ⟨trivial, ⟨trivial, ⟨(Av (Hm ((Au d).fWBody)) (by decide)), ⟨trivial, ⟨trivial, ⟨trivial, ⟨trivial, ⟨trivial, ⟨(Av (Hm ((Au d).fPass)) (by decide)), ⟨trivial, ⟨trivial, ⟨(Av (Ia ((Au d).fWants)) (by decide)), ⟨(Av (U1 ((Au d).fNames)) (by decide)), ⟨(Av (Uz ((Au d).fCodes)) (by decide)), trivial⟩⟩⟩⟩⟩⟩⟩⟩⟩⟩⟩⟩⟩⟩⟩⟩⟩⟩⟩⟩⟩⟩⟩⟩⟩), ⟨trivial, trivial⟩⟩⟩) ?_
       have e : C0 kd d x0 pre (y :: t) = ((⟨x0.fLast, (x0.fFl.set (i).toNat ({ y with fSt := 3 } : Af)), x0.fQ⟩ : Ci), (Au d), true) := by
        clear s0 s202 s203 s289 s297 s298 s299
        try simp only [decide_eq_true_eq, decide_eq_false_iff_not] at h13 h204 h205 h257 h285 h286
        try rw [show x0.fFl.take i.toNat ++ x0.fFl.drop (i.toNat + 1) = pre ++ t from by rw [he, hi]; simp]
        try rw [show x0.fFl.set (i).toNat ({ y with fSt := 3 } : Af) = pre ++ ({ y with fSt := 3 } : Af) :: t from by rw [he, hi]; simp]
        rw [C0]
        (repeat' split) <;> first | rfl | (exfalso; omega)
       rw [e]
       first | done | rfl
     ·refine El h285 ?_
      refine El h285 ?_
      refine El h285 ?_
      refine Hg h285 ?_
      refine B5 rfl ?_
      refine Jy (by omega) (by omega) ?_
      have e300 : C0 kd d x0 pre (y :: t) = C0 kd d x0 (pre ++ [y]) t := by
       clear s0 s202 s203
       try simp only [decide_eq_true_eq, decide_eq_false_iff_not, bne_iff_ne, beq_iff_eq, beq_eq_false_iff_ne] at h13 h204 h205 h257 h285
       rw [C0]; (repeat' split) <;> first | rfl | (exfalso; omega)
      rw [e300]
      exact Fk n hn x0 kd d b0 h13  t (pre ++ [y]) m _ i10 i5 i3 i1 x8 x7 _ (by rw [he]; simp) (by rw [hi]; simp) (by simpa using hm) lx8 lx7 (by simpa only [List.map_append, List.map_cons, List.map_nil] using (s203.sel (.cons Do (.cons Do (.cons Do (.cons Do (.cons Do (.cons Do .nil))))))))
  ·refine C9 (nT h204) ?_
   refine Jy (by omega) (by omega) ?_
   have e301 : C0 kd d x0 pre (y :: t) = C0 kd d x0 (pre ++ [y]) t := by
    clear s0 s202 s203
    try simp only [decide_eq_true_eq, decide_eq_false_iff_not, bne_iff_ne, beq_iff_eq, beq_eq_false_iff_ne] at h13 h204
    rw [C0]; (repeat' split) <;> first | rfl | (exfalso; omega)
   rw [e301]
   exact Fk n hn x0 kd d b0 h13  t (pre ++ [y]) m _ i10 i5 i3 i1 x8 x7 _ (by rw [he]; simp) (by rw [hi]; simp) (by simpa using hm) lx8 lx7 (by simpa only [List.map_append, List.map_cons, List.map_nil] using (s203.sel (.cons Do (.cons Do (.cons Do (.cons Do (.cons Do (.cons Do .nil))))))))
theorem Afy (n : Nat) (hn : 1048576 < n) (x0 : Ci) (kd : Int) (d : Int) (b0 : Ev x0 ≤ 1048576) : Bt E0 (n + 13) 37 13 [.agg (Ar x0), .sc (.int .i64 kd), .sc (.int .i64 d)] = some (.tup [.agg (Ar (F5 x0 kd d).1), .agg (Aq (F5 x0 kd d).2.1), .sc (.bool (F5 x0 kd d).2.2)]) := by
 rw [Ax, AiW, f13]
 refine Kv (G := (· = some (.tup [.agg (Ar (F5 x0 kd d).1), .agg (Aq (F5 x0 kd d).2.1), .sc (.bool (F5 x0 kd d).2.2)]))) ?_
 have hfl := Qn x0 b0
 try simp only [B6, Cp, Bb, Bo, D7, A9, B3]
 have s0 : Sep [] [] := Ks
 refine Tk s0 (Ip (Fq _)) fun i1 H s2 => ?_
 refine H4 s2 fun i3 H s4 => ?_
 refine H4 s4 fun i5 H s6 => ?_
 refine Ao s6 Dn rfl ?_
 refine Hs s6 rfl (.aggF (Fq _) .nil) (AeX (n + 8) (by omega) x0 (AkJ x0 b0)) ⟨_, rfl, rfl⟩ (AeO _) ?_
 rintro _ _ H ⟨x7, x8, lx7, lx8, rfl, rfl⟩ s9
 simp only [List.nil_append, List.cons_append] at s9
 refine H4 s9 fun i10 H s11 => ?_
 refine A5 (cs' := [.sc (.int .i64 x0.fLast), x7, x8]) s11 (.here) (Ai (Aa rfl (Aa lx7 (Aa lx8 rfl)))) rfl (A3 rfl) rfl fun H s12 => ?_
 refine Ao s12 S9 rfl ?_
 refine Ey (v := (.bool (Iz x0))) s12 rfl (.aggF (Fq _) .nil) (Af0 (n + 2) (by omega) _ x0 b0) ?_
 refine Ky ?_
 refine Ae ((Iz x0)) (fun h13 => ?_) (fun h13 => ?_)
 ·refine B5 (nF h13) ?_
  have hv : F5 x0 kd d = C0 kd d x0 [] x0.fFl := by unfold F5; rw [if_pos h13]
  rw [hv]
  exact Fk n hn x0 kd d b0 h13  x0.fFl [] _ 0 i10 i5 i3 i1 x8 x7 _ rfl rfl (by omega) lx8 lx7 s12
 ·refine C9 (nT h13) ?_
  refine Ao s12 (.here) rfl ?_
  refine E5 (cs := [.sc (.int .i64 0), .sc (.bool false), .sc (.int .i64 0), .sc (.bool false), .sc (.int .i64 0), .sc (.string (⟨#[]⟩)), .nl, .sc (.string (⟨#[]⟩)), .sc (.int .i64 0), .sc (.bool false), .sc (.int .i64 0), .sc (.bool false), .sc (.string (⟨#[]⟩)), .nl, .sc (.int .i64 0), .sc (.bool false), .sc (.bool false), .sc (.string (⟨#[]⟩)), .sc (.bool false), .nl, .sc (.int .i64 0), .sc (.bool false), .nl, .nl, .nl]) rfl ?_
  refine A5 (cs' := [.sc (.int .i64 x0.fLast), x7, x8]) s12 I6 (Ai (Aa rfl (Aa lx7 (Aa lx8 rfl)))) rfl (A3 rfl) rfl fun H s14 => ?_
  refine A5 (cs' := [.sc (.int .i64 0), .sc (.bool false), .sc (.int .i64 0), .sc (.bool false), .sc (.int .i64 0), .sc (.string (⟨#[]⟩)), .nl, .sc (.string (⟨#[]⟩)), .sc (.int .i64 0), .sc (.bool false), .sc (.int .i64 0), .sc (.bool false), .sc (.string (⟨#[]⟩)), .nl, .sc (.int .i64 0), .sc (.bool false), .sc (.bool false), .sc (.string (⟨#[]⟩)), .sc (.bool false), .nl, .sc (.int .i64 0), .sc (.bool false), .nl, .nl, .nl]) s14 I6 (Ai (Aa rfl (Aa rfl (Aa rfl (Aa rfl (Aa rfl (Aa rfl (Aa rfl (Aa rfl (Aa rfl (Aa rfl (Aa rfl (Aa rfl (Aa rfl (Aa rfl (Aa rfl (Aa rfl (Aa rfl (Aa rfl (Aa rfl (Aa rfl (Aa rfl (Aa rfl (Aa rfl (Aa rfl (Aa rfl rfl)))))))))))))))))))))))))) rfl (A3 rfl) rfl fun H s15 => ?_
  refine Ao s15 Do rfl ?_
  refine Ao s15 (.here) rfl ?_
  refine Ec (Dm s15 rfl (.agg ⟨_, rfl, rfl⟩ (.sc (.own I6 (.own Mn .nil))) (.agg ⟨_, rfl, rfl⟩ (.sc (.sc (.sc (.sc (.sc (.sc (.nl (.sc (.sc (.sc (.sc (.sc (.sc (.nl (.sc (.sc (.sc (.sc (.sc (.nl (.sc (.sc (.nl (.nl (.nl .nil))))))))))))))))))))))))) (.sc .nil))) ⟨(Em ⟨_, rfl, rfl⟩ ⟨trivial, ⟨(Av (Cd x0.fFl) (by decide)), ⟨(Av (Eb x0.fQ) (by decide)), trivial⟩⟩⟩), ⟨(Em ⟨_, rfl, rfl⟩ ⟨trivial, ⟨trivial, ⟨trivial, ⟨trivial, ⟨trivial, ⟨trivial, ⟨(Bq ⟨_, _, rfl, rfl⟩), ⟨trivial, ⟨trivial, ⟨trivial, ⟨trivial, ⟨trivial, ⟨trivial, ⟨(Bq ⟨_, _, rfl, rfl⟩), ⟨trivial, ⟨trivial, ⟨trivial, ⟨trivial, ⟨trivial, ⟨(Bq ⟨_, _, rfl, rfl⟩), ⟨trivial, ⟨trivial, ⟨(Bq ⟨_, _, rfl, rfl⟩), ⟨(Bq ⟨_, _, rfl, rfl⟩), ⟨(Bq ⟨_, _, rfl, rfl⟩), trivial⟩⟩⟩⟩⟩⟩⟩⟩⟩⟩⟩⟩⟩⟩⟩⟩⟩⟩⟩⟩⟩⟩⟩⟩⟩), ⟨trivial, trivial⟩⟩⟩) ?_
  have e : F5 x0 kd d = ((⟨x0.fLast, x0.fFl, x0.fQ⟩ : Ci), Gx, false) := by
   clear s0 s2 s4 s6 s9 s11 s12 s14 s15
   try simp only [decide_eq_true_eq, decide_eq_false_iff_not] at h13
   unfold F5; simp only [h13, if_true, if_false, Bool.false_eq_true]
  rw [e]
  first | done | rfl
theorem AaK (p : Af → Bool) : ∀ (l : List Af) (i : Nat), Cl p l i < ((i + l.length : Nat) : Int)
 | [], i => by simp only [Cl]; omega
 | x :: l, i => by
  rw [Cl]
  split
  ·simp only [List.length_cons]; omega
  ·have := AaK p l (i + 1)
   simp only [List.length_cons]
   omega
theorem Tl (p : Af → Bool) : ∀ (l : List Af) (i : Nat), (Cl p l i = -1 ∧ l.any p = false) ∨ ∃ pre x r, l = pre ++ x :: r ∧ p x = true ∧ pre.any p = false ∧ Cl p l i = ((i + pre.length : Nat) : Int)
 | [], i => .inl ⟨rfl, rfl⟩
 | x :: l, i => by
  rw [Cl, List.any_cons]
  cases hx : p x
  ·rcases Tl p l (i + 1) with ⟨h1, h2⟩ | ⟨pre, y, r, rfl, h2, h3, h4⟩
   ·exact .inl ⟨by simpa using h1, by simpa using h2⟩
   ·refine .inr ⟨x :: pre, y, r, rfl, h2, by rw [List.any_cons, hx, h3]; rfl, ?_⟩
    rw [if_neg (by decide), h4, List.length_cons]
    congr 1
    omega
  ·exact .inr ⟨[], x, l, rfl, hx, rfl, by simp⟩
theorem AaG : ∀ (r P : List Af) (x : Af), x ∈ P → Rr P r = true → (r.any fun y => y.fId == x.fId) = false
 | [], _, _, _, _ => rfl
 | y :: r, P, x, hx, h => by
  rw [Rr, Bool.and_eq_true] at h
  rw [List.any_cons, AaG r (P ++ [y]) x (List.mem_append_left _ hx) h.2, Bool.or_false]
  cases hy : (y.fId == x.fId)
  ·rfl
  ·exfalso
   have h1 := h.1
   simp only [Bool.and_eq_true, Bool.not_eq_true'] at h1
   have h2 : Hj P y = false := h1.2
   unfold Hj at h2
   rw [List.any_eq_false] at h2
   exact h2 x hx (by rw [beq_iff_eq] at hy ⊢; exact hy.symm)
theorem Th : ∀ (pre P r : List Af) (x : Af), Rr P (pre ++ x :: r) = true → (r.any fun y => y.fId == x.fId) = false
 | [], P, r, x, h => by
  rw [List.nil_append, Rr, Bool.and_eq_true] at h
  exact AaG r (P ++ [x]) x (List.mem_append_right _ (List.mem_singleton.2 rfl)) h.2
 | y :: pre, P, r, x, h => by
  rw [List.cons_append, Rr, Bool.and_eq_true] at h
  exact Th pre (P ++ [y]) r x h.2
theorem Mu (kd id : Int) (o : Ci) : ∀ (t pre : List Af), (t.any fun y => y.fId == id) = false → C0 kd id o pre t = (o, Gx, false)
 | [], _, _ => rfl
 | f :: t, pre, h => by
  rw [List.any_cons, Bool.or_eq_false_iff] at h
  rw [C0, if_neg (by simpa using h.1)]
  exact Mu kd id o t (pre ++ [f]) h.2
theorem Qx (kd id : Int) (o : Ci) : ∀ (p t pre : List Af), (p.any fun y => y.fId == id) = false → C0 kd id o pre (p ++ t) = C0 kd id o (pre ++ p) t
 | [], t, pre, _ => by rw [List.nil_append, List.append_nil]
 | f :: p, t, pre, h => by
  rw [List.any_cons, Bool.or_eq_false_iff] at h
  rw [List.cons_append, C0, if_neg (by simpa using h.1), Qx kd id o p t (pre ++ [f]) h.2, List.append_assoc]
  rfl
def Hf (o : Ci) (kd id : Int) : Ci × Ay × Bool :=
 if Iz o then (if Cl (fun y : Af => y.fId == id) o.fFl 0 < 0 then (o, Gx, false) else
  match o.fFl[(Cl (fun y : Af => y.fId == id) o.fFl 0).toNat]? with
  | some f => if (kd = 4 ∧ f.fSt = 1) ∨ (kd = 7 ∧ f.fSt = 3) then ({ o with fFl := o.fFl.take (Cl (fun y : Af => y.fId == id) o.fFl 0).toNat ++ o.fFl.drop ((Cl (fun y : Af => y.fId == id) o.fFl 0).toNat + 1) }, Gx, true)
   else if kd = 5 ∧ ¬ f.fSt = 1 then ({ o with fFl := o.fFl.set (Cl (fun y : Af => y.fId == id) o.fFl 0).toNat { f with fSt := 3 } }, Au id, true) else (o, Gx, false)
  | none => (o, Gx, false)) else (o, Gx, false)
theorem D3 (o : Ci) (kd id : Int) : Hf o kd id = F5 o kd id := by
 unfold Hf F5
 by_cases ho : Iz o = true
 ·rw [if_pos ho, if_pos ho]
  have hg : Rr [] o.fFl = true := by
   unfold Iz at ho
   rw [Bool.and_eq_true] at ho
   exact ho.1
  rcases Tl (fun y : Af => y.fId == id) o.fFl 0 with ⟨h1, h2⟩ | ⟨pre, x, r, h1, h2, h3, h4⟩
  ·rw [if_pos (by omega), Mu kd id o _ _ h2]
  ·rw [if_neg (by omega), h4]
   have h5 : ((0 + pre.length : Nat) : Int).toNat = pre.length := by omega
   have hid : x.fId = id := by simpa using h2
   have h6 : o.fFl[pre.length]? = some x := by rw [h1]; simp
   have h7 : o.fFl.take pre.length = pre := by rw [h1]; simp
   have h8 : o.fFl.drop (pre.length + 1) = r := by rw [h1]; simp
   have h9 : o.fFl.set pre.length { x with fSt := 3 } = pre ++ { x with fSt := 3 } :: r := by rw [h1]; simp
   rw [h5, h6, h7, h8]
   simp only [h9]
   have hu := Th pre [] r x (h1 ▸ hg)
   rw [hid] at hu
   rw [h1, Qx kd id o pre (x :: r) [] h3, List.nil_append, C0, if_pos hid, Mu kd id o r (pre ++ [x]) hu]
 ·rw [if_neg ho, if_neg ho]
theorem AeI (n : Nat) (hn : 1048576 < n) (x0 : Ci) (kd : Int) (d : Int) (b0 : Ev x0 ≤ 1048576) : Bt E0 (n + 13) 37 15 [.agg (Ar x0), .sc (.int .i64 kd), .sc (.int .i64 d)] = some (.tup [.agg (Ar (F5 x0 kd d).1), .agg (Aq (F5 x0 kd d).2.1), .sc (.bool (F5 x0 kd d).2.2)]) := by
 rw [Ax, AiY, f15]
 refine Kv (G := (· = some (.tup [.agg (Ar (F5 x0 kd d).1), .agg (Aq (F5 x0 kd d).2.1), .sc (.bool (F5 x0 kd d).2.2)]))) ?_
 have hfl := Qn x0 b0
 have hix := AaK (fun y : Af => y.fId == d) x0.fFl 0
 try simp only [B6, Cp, Bj, Bb, Bo, Bg, D7, A9, Br, B4, Ca, B3]
 have s0 : Sep [] [] := Ks
 refine Tk s0 (Ip (Fq _)) fun i1 H s2 => ?_
 refine H4 s2 fun i3 H s4 => ?_
 refine H4 s4 fun i5 H s6 => ?_
 refine Ao s6 Dn rfl ?_
 refine Hs s6 rfl (.aggF (Fq _) .nil) (Adm (n + 8) (by omega) x0 (AkJ x0 b0)) ⟨_, rfl, rfl⟩ (AeO _) ?_
 rintro _ _ H ⟨x7, x8, lx7, lx8, rfl, rfl⟩ s9
 simp only [List.nil_append, List.cons_append] at s9
 refine H4 s9 fun i10 H s11 => ?_
 refine A5 (cs' := [.sc (.int .i64 x0.fLast), x7, x8]) s11 (.here) (Ai (Aa rfl (Aa lx7 (Aa lx8 rfl)))) rfl (A3 rfl) rfl fun H s12 => ?_
 refine Ac (o' := 1) rfl ?_
 refine Bp (c := At Ap x0.fFl) s12 S9 rfl ?_
 refine Ey (v := (.int .i64 (Cl (fun y : Af => y.fId == d) x0.fFl 0))) s12 rfl (.cons .ro (.cons .sc .nil)) (Tj (n + 9) (by omega) _ x0.fFl d hfl) ?_
 refine Ao s12 S9 rfl ?_
 refine Ey (v := (.bool (Iz x0))) s12 rfl (.aggF (Fq _) .nil) (AeK (n + 2) (by omega) _ x0 b0) ?_
 refine Ky ?_
 refine Ae ((Iz x0)) (fun h13 => ?_) (fun h13 => ?_)
 ·refine C1 (nF h13) ?_
  refine C1 (nF h13) ?_
  refine AeC ?_
  refine Hg (nF h13) ?_
  refine Ae ((decide ((Cl (fun y : Af => y.fId == d) x0.fFl 0) < 0))) (fun h14 => ?_) (fun h14 => ?_)
  ·refine C9 h14 ?_
   refine Ao s12 (.here) rfl ?_
   refine E5 (cs := [.sc (.int .i64 0), .sc (.bool false), .sc (.int .i64 0), .sc (.bool false), .sc (.int .i64 0), .sc (.string (⟨#[]⟩)), .nl, .sc (.string (⟨#[]⟩)), .sc (.int .i64 0), .sc (.bool false), .sc (.int .i64 0), .sc (.bool false), .sc (.string (⟨#[]⟩)), .nl, .sc (.int .i64 0), .sc (.bool false), .sc (.bool false), .sc (.string (⟨#[]⟩)), .sc (.bool false), .nl, .sc (.int .i64 0), .sc (.bool false), .nl, .nl, .nl]) rfl ?_
   refine A5 (cs' := [.sc (.int .i64 x0.fLast), x7, x8]) s12 I6 (Ai (Aa rfl (Aa lx7 (Aa lx8 rfl)))) rfl (A3 rfl) rfl fun H s15 => ?_
   refine A5 (cs' := [.sc (.int .i64 0), .sc (.bool false), .sc (.int .i64 0), .sc (.bool false), .sc (.int .i64 0), .sc (.string (⟨#[]⟩)), .nl, .sc (.string (⟨#[]⟩)), .sc (.int .i64 0), .sc (.bool false), .sc (.int .i64 0), .sc (.bool false), .sc (.string (⟨#[]⟩)), .nl, .sc (.int .i64 0), .sc (.bool false), .sc (.bool false), .sc (.string (⟨#[]⟩)), .sc (.bool false), .nl, .sc (.int .i64 0), .sc (.bool false), .nl, .nl, .nl]) s15 I6 (Ai (Aa rfl (Aa rfl (Aa rfl (Aa rfl (Aa rfl (Aa rfl (Aa rfl (Aa rfl (Aa rfl (Aa rfl (Aa rfl (Aa rfl (Aa rfl (Aa rfl (Aa rfl (Aa rfl (Aa rfl (Aa rfl (Aa rfl (Aa rfl (Aa rfl (Aa rfl (Aa rfl (Aa rfl (Aa rfl rfl)))))))))))))))))))))))))) rfl (A3 rfl) rfl fun H s16 => ?_
   refine Ao s16 Do rfl ?_
   refine Ao s16 (.here) rfl ?_
   refine Ec (Dm s16 rfl (.agg ⟨_, rfl, rfl⟩ (.sc (.own I6 (.own Mn .nil))) (.agg ⟨_, rfl, rfl⟩ (.sc (.sc (.sc (.sc (.sc (.sc (.nl (.sc (.sc (.sc (.sc (.sc (.sc (.nl (.sc (.sc (.sc (.sc (.sc (.nl (.sc (.sc (.nl (.nl (.nl .nil))))))))))))))))))))))))) (.sc .nil))) ⟨(Em ⟨_, rfl, rfl⟩ ⟨trivial, ⟨(Av (Cd x0.fFl) (by decide)), ⟨(Av (Eb x0.fQ) (by decide)), trivial⟩⟩⟩), ⟨(Em ⟨_, rfl, rfl⟩ ⟨trivial, ⟨trivial, ⟨trivial, ⟨trivial, ⟨trivial, ⟨trivial, ⟨(Bq ⟨_, _, rfl, rfl⟩), ⟨trivial, ⟨trivial, ⟨trivial, ⟨trivial, ⟨trivial, ⟨trivial, ⟨(Bq ⟨_, _, rfl, rfl⟩), ⟨trivial, ⟨trivial, ⟨trivial, ⟨trivial, ⟨trivial, ⟨(Bq ⟨_, _, rfl, rfl⟩), ⟨trivial, ⟨trivial, ⟨(Bq ⟨_, _, rfl, rfl⟩), ⟨(Bq ⟨_, _, rfl, rfl⟩), ⟨(Bq ⟨_, _, rfl, rfl⟩), trivial⟩⟩⟩⟩⟩⟩⟩⟩⟩⟩⟩⟩⟩⟩⟩⟩⟩⟩⟩⟩⟩⟩⟩⟩⟩), ⟨trivial, trivial⟩⟩⟩) ?_
   have e : F5 x0 kd d = ((⟨x0.fLast, x0.fFl, x0.fQ⟩ : Ci), Gx, false) := by
    clear s0 s2 s4 s6 s9 s11 s12 s15 s16
    try simp only [decide_eq_true_eq, decide_eq_false_iff_not] at h13 h14
    rw [← D3]; unfold Hf
    (repeat' split) <;> first | rfl | (exfalso; omega) | (simp_all; done) | (simp_all; omega)
   rw [e]
   first | done | rfl
  ·have hnn : 0 ≤ (Cl (fun y : Af => y.fId == d) x0.fFl 0) := Int.not_lt.1 (of_decide_eq_false h14)
   refine B5 h14 ?_
   refine Ac (o' := 1) rfl ?_
   refine Bp (c := At Ap x0.fFl) s12 S9 rfl ?_
   refine Ahc Bf (by decide) (by omega) (by first | omega | (simp at *; omega)) fun y17 ry17 hy17 => ?_
   refine Ahb ?_
   refine Ak4 (c := .sc (.int .i64 y17.fSt)) rfl ?_
   refine Bx ?_
   refine Ae ((decide (kd = 4))) (fun h18 => ?_) (fun h18 => ?_)
   ·refine C1 h18 ?_
    refine C1 h18 ?_
    refine Bx ?_
    refine Ld h18 ?_
    refine Hv ?_
    refine Ae ((decide (y17.fSt = 1))) (fun h19 => ?_) (fun h19 => ?_)
    ·refine C9 h19 ?_
     refine C9 h19 ?_
     refine Ac (o' := 1) rfl ?_
     refine Bp (c := x7) s12 (.here) rfl ?_
     refine Jy (by omega) (by omega) ?_
     refine Pb s12 rfl rfl rfl rfl ⟨_, _, rfl, rfl, rfl, rfl⟩ Dn (by omega) (by omega) Bf Df rfl fun x20 H lx20 s21 => ?_
     refine Ac (o' := 1) rfl ?_
     refine A5 (cs' := [.sc (.int .i64 x0.fLast), x20, x8]) s21 Do (Ak lx20) rfl (A3 rfl) rfl fun H s22 => ?_
     refine Ao s22 (.here) rfl ?_
     refine E5 (cs := [.sc (.int .i64 0), .sc (.bool false), .sc (.int .i64 0), .sc (.bool false), .sc (.int .i64 0), .sc (.string (⟨#[]⟩)), .nl, .sc (.string (⟨#[]⟩)), .sc (.int .i64 0), .sc (.bool false), .sc (.int .i64 0), .sc (.bool false), .sc (.string (⟨#[]⟩)), .nl, .sc (.int .i64 0), .sc (.bool false), .sc (.bool false), .sc (.string (⟨#[]⟩)), .sc (.bool false), .nl, .sc (.int .i64 0), .sc (.bool false), .nl, .nl, .nl]) rfl ?_
     refine A5 (cs' := [.sc (.int .i64 x0.fLast), x20, x8]) s22 I6 (Ai (Aa rfl (Aa lx20 (Aa lx8 rfl)))) rfl (A3 rfl) rfl fun H s23 => ?_
     refine A5 (cs' := [.sc (.int .i64 0), .sc (.bool false), .sc (.int .i64 0), .sc (.bool false), .sc (.int .i64 0), .sc (.string (⟨#[]⟩)), .nl, .sc (.string (⟨#[]⟩)), .sc (.int .i64 0), .sc (.bool false), .sc (.int .i64 0), .sc (.bool false), .sc (.string (⟨#[]⟩)), .nl, .sc (.int .i64 0), .sc (.bool false), .sc (.bool false), .sc (.string (⟨#[]⟩)), .sc (.bool false), .nl, .sc (.int .i64 0), .sc (.bool false), .nl, .nl, .nl]) s23 I6 (Ai (Aa rfl (Aa rfl (Aa rfl (Aa rfl (Aa rfl (Aa rfl (Aa rfl (Aa rfl (Aa rfl (Aa rfl (Aa rfl (Aa rfl (Aa rfl (Aa rfl (Aa rfl (Aa rfl (Aa rfl (Aa rfl (Aa rfl (Aa rfl (Aa rfl (Aa rfl (Aa rfl (Aa rfl (Aa rfl rfl)))))))))))))))))))))))))) rfl (A3 rfl) rfl fun H s24 => ?_
     refine Ao s24 Do rfl ?_
     refine Ao s24 (.here) rfl ?_
     refine Ec (Dm s24 rfl (.agg ⟨_, rfl, rfl⟩ (.sc (.own Mn (.own Mn .nil))) (.agg ⟨_, rfl, rfl⟩ (.sc (.sc (.sc (.sc (.sc (.sc (.nl (.sc (.sc (.sc (.sc (.sc (.sc (.nl (.sc (.sc (.sc (.sc (.sc (.nl (.sc (.sc (.nl (.nl (.nl .nil))))))))))))))))))))))))) (.sc .nil))) ⟨(Em ⟨_, rfl, rfl⟩ ⟨trivial, ⟨(Av (Cd (x0.fFl.take (Cl (fun y : Af => y.fId == d) x0.fFl 0).toNat ++ x0.fFl.drop ((Cl (fun y : Af => y.fId == d) x0.fFl 0).toNat + 1))) (by decide)), ⟨(Av (Eb x0.fQ) (by decide)), trivial⟩⟩⟩), ⟨(Em ⟨_, rfl, rfl⟩ ⟨trivial, ⟨trivial, ⟨trivial, ⟨trivial, ⟨trivial, ⟨trivial, ⟨(Bq ⟨_, _, rfl, rfl⟩), ⟨trivial, ⟨trivial, ⟨trivial, ⟨trivial, ⟨trivial, ⟨trivial, ⟨(Bq ⟨_, _, rfl, rfl⟩), ⟨trivial, ⟨trivial, ⟨trivial, ⟨trivial, ⟨trivial, ⟨(Bq ⟨_, _, rfl, rfl⟩), ⟨trivial, ⟨trivial, ⟨(Bq ⟨_, _, rfl, rfl⟩), ⟨(Bq ⟨_, _, rfl, rfl⟩), ⟨(Bq ⟨_, _, rfl, rfl⟩), trivial⟩⟩⟩⟩⟩⟩⟩⟩⟩⟩⟩⟩⟩⟩⟩⟩⟩⟩⟩⟩⟩⟩⟩⟩⟩), ⟨trivial, trivial⟩⟩⟩) ?_
     have e : F5 x0 kd d = ((⟨x0.fLast, (x0.fFl.take (Cl (fun y : Af => y.fId == d) x0.fFl 0).toNat ++ x0.fFl.drop ((Cl (fun y : Af => y.fId == d) x0.fFl 0).toNat + 1)), x0.fQ⟩ : Ci), Gx, true) := by
      clear s0 s2 s4 s6 s9 s11 s12 s21 s22 s23 s24
      try simp only [decide_eq_true_eq, decide_eq_false_iff_not] at h13 h14 h18 h19
      rw [← D3]; unfold Hf
      (repeat' split) <;> first | rfl | (exfalso; omega) | (simp_all; done) | (simp_all; omega)
     rw [e]
     first | done | rfl
    ·refine B5 h19 ?_
     refine Bx ?_
     refine Ae ((decide (kd = 7))) (fun h25 => ?_) (fun h25 => ?_)
     ·refine C1 h25 ?_
      refine C1 h25 ?_
      refine Bx ?_
      refine Ld h25 ?_
      refine Ae ((decide (y17.fSt = 3))) (fun h26 => ?_) (fun h26 => ?_)
      ·refine C9 h26 ?_
       refine Ac (o' := 1) rfl ?_
       refine Bp (c := x7) s12 (.here) rfl ?_
       refine Jy (by omega) (by omega) ?_
       refine Pb s12 rfl rfl rfl rfl ⟨_, _, rfl, rfl, rfl, rfl⟩ Dn (by omega) (by omega) Bf Df rfl fun x27 H lx27 s28 => ?_
       refine Ac (o' := 1) rfl ?_
       refine A5 (cs' := [.sc (.int .i64 x0.fLast), x27, x8]) s28 Do (Ak lx27) rfl (A3 rfl) rfl fun H s29 => ?_
       refine Ao s29 (.here) rfl ?_
       refine E5 (cs := [.sc (.int .i64 0), .sc (.bool false), .sc (.int .i64 0), .sc (.bool false), .sc (.int .i64 0), .sc (.string (⟨#[]⟩)), .nl, .sc (.string (⟨#[]⟩)), .sc (.int .i64 0), .sc (.bool false), .sc (.int .i64 0), .sc (.bool false), .sc (.string (⟨#[]⟩)), .nl, .sc (.int .i64 0), .sc (.bool false), .sc (.bool false), .sc (.string (⟨#[]⟩)), .sc (.bool false), .nl, .sc (.int .i64 0), .sc (.bool false), .nl, .nl, .nl]) rfl ?_
       refine A5 (cs' := [.sc (.int .i64 x0.fLast), x27, x8]) s29 I6 (Ai (Aa rfl (Aa lx27 (Aa lx8 rfl)))) rfl (A3 rfl) rfl fun H s30 => ?_
       refine A5 (cs' := [.sc (.int .i64 0), .sc (.bool false), .sc (.int .i64 0), .sc (.bool false), .sc (.int .i64 0), .sc (.string (⟨#[]⟩)), .nl, .sc (.string (⟨#[]⟩)), .sc (.int .i64 0), .sc (.bool false), .sc (.int .i64 0), .sc (.bool false), .sc (.string (⟨#[]⟩)), .nl, .sc (.int .i64 0), .sc (.bool false), .sc (.bool false), .sc (.string (⟨#[]⟩)), .sc (.bool false), .nl, .sc (.int .i64 0), .sc (.bool false), .nl, .nl, .nl]) s30 I6 (Ai (Aa rfl (Aa rfl (Aa rfl (Aa rfl (Aa rfl (Aa rfl (Aa rfl (Aa rfl (Aa rfl (Aa rfl (Aa rfl (Aa rfl (Aa rfl (Aa rfl (Aa rfl (Aa rfl (Aa rfl (Aa rfl (Aa rfl (Aa rfl (Aa rfl (Aa rfl (Aa rfl (Aa rfl (Aa rfl rfl)))))))))))))))))))))))))) rfl (A3 rfl) rfl fun H s31 => ?_
       refine Ao s31 Do rfl ?_
       refine Ao s31 (.here) rfl ?_
       refine Ec (Dm s31 rfl (.agg ⟨_, rfl, rfl⟩ (.sc (.own Mn (.own Mn .nil))) (.agg ⟨_, rfl, rfl⟩ (.sc (.sc (.sc (.sc (.sc (.sc (.nl (.sc (.sc (.sc (.sc (.sc (.sc (.nl (.sc (.sc (.sc (.sc (.sc (.nl (.sc (.sc (.nl (.nl (.nl .nil))))))))))))))))))))))))) (.sc .nil))) ⟨(Em ⟨_, rfl, rfl⟩ ⟨trivial, ⟨(Av (Cd (x0.fFl.take (Cl (fun y : Af => y.fId == d) x0.fFl 0).toNat ++ x0.fFl.drop ((Cl (fun y : Af => y.fId == d) x0.fFl 0).toNat + 1))) (by decide)), ⟨(Av (Eb x0.fQ) (by decide)), trivial⟩⟩⟩), ⟨(Em ⟨_, rfl, rfl⟩ ⟨trivial, ⟨trivial, ⟨trivial, ⟨trivial, ⟨trivial, ⟨trivial, ⟨(Bq ⟨_, _, rfl, rfl⟩), ⟨trivial, ⟨trivial, ⟨trivial, ⟨trivial, ⟨trivial, ⟨trivial, ⟨(Bq ⟨_, _, rfl, rfl⟩), ⟨trivial, ⟨trivial, ⟨trivial, ⟨trivial, ⟨trivial, ⟨(Bq ⟨_, _, rfl, rfl⟩), ⟨trivial, ⟨trivial, ⟨(Bq ⟨_, _, rfl, rfl⟩), ⟨(Bq ⟨_, _, rfl, rfl⟩), ⟨(Bq ⟨_, _, rfl, rfl⟩), trivial⟩⟩⟩⟩⟩⟩⟩⟩⟩⟩⟩⟩⟩⟩⟩⟩⟩⟩⟩⟩⟩⟩⟩⟩⟩), ⟨trivial, trivial⟩⟩⟩) ?_
       have e : F5 x0 kd d = ((⟨x0.fLast, (x0.fFl.take (Cl (fun y : Af => y.fId == d) x0.fFl 0).toNat ++ x0.fFl.drop ((Cl (fun y : Af => y.fId == d) x0.fFl 0).toNat + 1)), x0.fQ⟩ : Ci), Gx, true) := by
        clear s0 s2 s4 s6 s9 s11 s12 s28 s29 s30 s31
        try simp only [decide_eq_true_eq, decide_eq_false_iff_not] at h13 h14 h18 h19 h25 h26
        rw [← D3]; unfold Hf
        (repeat' split) <;> first | rfl | (exfalso; omega) | (simp_all; done) | (simp_all; omega)
       rw [e]
       first | done | rfl
      ·refine B5 h26 ?_
       refine Bx ?_
       refine Ae ((decide (kd = 5))) (fun h32 => ?_) (fun h32 => ?_)
       ·refine C1 h32 ?_
        refine C1 h32 ?_
        refine N6 ?_
        refine Ld h32 ?_
        refine C9 (nT h19) ?_
        refine Ac (o' := 1) rfl ?_
        refine Bp (c := x7) s12 (.here) rfl ?_
        obtain ⟨y34, he33⟩ : ∃ y, (x0.fFl)[((Cl (fun y : Af => y.fId == d) x0.fFl 0)).toNat]? = some y := ⟨_, List.getElem?_eq_getElem (by first | omega | (simp at *; omega))⟩
        refine Le (y := y34) (y' := ({ y34 with fSt := 3 } : Af)) (k := 5) (v := (.int .i64 y34.fSt)) s12 ⟨_, _, rfl, rfl, rfl, rfl⟩ Dn (by omega) he33 Bf (by omega) rfl rfl rfl fun H s35 => ?_
        refine Ao s35 Do rfl ?_
        have c36 := Oa (n + 8) (by omega) d
        refine Hs s35 rfl (.cons .sc (.cons .sc .nil)) (c36) ⟨_, rfl, rfl⟩ (G0 _) ?_
        rintro _ _ H ⟨x37, x38, x39, x40, x41, x42, lx37, lx38, lx39, lx40, lx41, lx42, rfl, rfl⟩ s43
        simp only [List.nil_append, List.cons_append] at s43
        refine A5 (cs' := [.sc (.int .i64 x0.fLast), x7, x8]) s43 Qj (Ai (Aa rfl (Aa lx7 (Aa lx8 rfl)))) rfl (A3 rfl) rfl fun H s44 => ?_
        refine A5 (cs' := [.sc (.int .i64 ((Au d).fType)), .sc (.bool (Au d).fDup), .sc (.int .i64 ((Au d).fQos)), .sc (.bool (Au d).fRetain), .sc (.int .i64 ((Au d).fId)), .sc (.string ((Au d).fTopic)), x37, .sc (.string ((Au d).fClient)), .sc (.int .i64 ((Au d).fLevel)), .sc (.bool (Au d).fClean), .sc (.int .i64 ((Au d).fKeep)), .sc (.bool (Au d).fHasWill), .sc (.string ((Au d).fWTopic)), x38, .sc (.int .i64 ((Au d).fWQos)), .sc (.bool (Au d).fWRetain), .sc (.bool (Au d).fHasUser), .sc (.string ((Au d).fUser)), .sc (.bool (Au d).fHasPass), x39, .sc (.int .i64 ((Au d).fCode)), .sc (.bool (Au d).fPresent), x40, x41, x42]) s44 Qj (Ai (Aa rfl (Aa rfl (Aa rfl (Aa rfl (Aa rfl (Aa rfl (Aa lx37 (Aa rfl (Aa rfl (Aa rfl (Aa rfl (Aa rfl (Aa rfl (Aa lx38 (Aa rfl (Aa rfl (Aa rfl (Aa rfl (Aa rfl (Aa lx39 (Aa rfl (Aa rfl (Aa lx40 (Aa lx41 (Aa lx42 rfl)))))))))))))))))))))))))) rfl (A3 rfl) rfl fun H s45 => ?_
        refine Ao s45 Do rfl ?_
        refine Ao s45 (.here) rfl ?_
        refine Ec (Dm s45 rfl (.agg ⟨_, rfl, rfl⟩ (.sc (.own zP8 (.own zP9 .nil))) (.agg ⟨_, rfl, rfl⟩ (.sc (.sc (.sc (.sc (.sc (.sc (.own zP7 (.sc (.sc (.sc (.sc (.sc (.sc (.own zP6 (.sc (.sc (.sc (.sc (.sc (.own S9 (.sc (.sc (.own I6 (.own Mn (.own Dn .nil))))))))))))))))))))))))) (.sc .nil))) ⟨(Em ⟨_, rfl, rfl⟩ ⟨trivial, ⟨(Av (Cd (x0.fFl.set ((Cl (fun y : Af => y.fId == d) x0.fFl 0)).toNat ({ y34 with fSt := 3 } : Af))) (by decide)), ⟨(Av (Eb x0.fQ) (by decide)), trivial⟩⟩⟩), ⟨(Em ⟨_, rfl, rfl⟩ ⟨trivial, ⟨trivial, ⟨trivial, ⟨trivial, ⟨trivial, ⟨trivial, ⟨(Av (Hm ((Au d).fBody)) (by decide)), ⟨trivial, ⟨trivial, ⟨trivial, ⟨trivial, ⟨trivial, ⟨trivial, ⟨(Av (Hm ((Au d).fWBody)) (by decide)), ⟨trivial, ⟨trivial, ⟨trivial, ⟨trivial, ⟨trivial, ⟨(Av (Hm ((Au d).fPass)) (by decide)), ⟨trivial, ⟨trivial, ⟨(Av (Ia ((Au d).fWants)) (by decide)), ⟨(Av (U1 ((Au d).fNames)) (by decide)), ⟨(Av (Uz ((Au d).fCodes)) (by decide)), trivial⟩⟩⟩⟩⟩⟩⟩⟩⟩⟩⟩⟩⟩⟩⟩⟩⟩⟩⟩⟩⟩⟩⟩⟩⟩), ⟨trivial, trivial⟩⟩⟩) ?_
        have e : F5 x0 kd d = ((⟨x0.fLast, (x0.fFl.set ((Cl (fun y : Af => y.fId == d) x0.fFl 0)).toNat ({ y34 with fSt := 3 } : Af)), x0.fQ⟩ : Ci), (Au d), true) := by
         clear s0 s2 s4 s6 s9 s11 s12 s35 s43 s44 s45
         try simp only [decide_eq_true_eq, decide_eq_false_iff_not] at h13 h14 h18 h19 h25 h26 h32
         rw [← D3]; unfold Hf
         (repeat' split) <;> first | rfl | (exfalso; omega) | (simp_all; done) | (simp_all; omega)
        rw [e]
        first | done | rfl
       ·refine El h32 ?_
        refine El h32 ?_
        refine Hg h32 ?_
        refine B5 rfl ?_
        refine Ao s12 (.here) rfl ?_
        refine E5 (cs := [.sc (.int .i64 0), .sc (.bool false), .sc (.int .i64 0), .sc (.bool false), .sc (.int .i64 0), .sc (.string (⟨#[]⟩)), .nl, .sc (.string (⟨#[]⟩)), .sc (.int .i64 0), .sc (.bool false), .sc (.int .i64 0), .sc (.bool false), .sc (.string (⟨#[]⟩)), .nl, .sc (.int .i64 0), .sc (.bool false), .sc (.bool false), .sc (.string (⟨#[]⟩)), .sc (.bool false), .nl, .sc (.int .i64 0), .sc (.bool false), .nl, .nl, .nl]) rfl ?_
        refine A5 (cs' := [.sc (.int .i64 x0.fLast), x7, x8]) s12 I6 (Ai (Aa rfl (Aa lx7 (Aa lx8 rfl)))) rfl (A3 rfl) rfl fun H s46 => ?_
        refine A5 (cs' := [.sc (.int .i64 0), .sc (.bool false), .sc (.int .i64 0), .sc (.bool false), .sc (.int .i64 0), .sc (.string (⟨#[]⟩)), .nl, .sc (.string (⟨#[]⟩)), .sc (.int .i64 0), .sc (.bool false), .sc (.int .i64 0), .sc (.bool false), .sc (.string (⟨#[]⟩)), .nl, .sc (.int .i64 0), .sc (.bool false), .sc (.bool false), .sc (.string (⟨#[]⟩)), .sc (.bool false), .nl, .sc (.int .i64 0), .sc (.bool false), .nl, .nl, .nl]) s46 I6 (Ai (Aa rfl (Aa rfl (Aa rfl (Aa rfl (Aa rfl (Aa rfl (Aa rfl (Aa rfl (Aa rfl (Aa rfl (Aa rfl (Aa rfl (Aa rfl (Aa rfl (Aa rfl (Aa rfl (Aa rfl (Aa rfl (Aa rfl (Aa rfl (Aa rfl (Aa rfl (Aa rfl (Aa rfl (Aa rfl rfl)))))))))))))))))))))))))) rfl (A3 rfl) rfl fun H s47 => ?_
        refine Ao s47 Do rfl ?_
        refine Ao s47 (.here) rfl ?_
        refine Ec (Dm s47 rfl (.agg ⟨_, rfl, rfl⟩ (.sc (.own I6 (.own Mn .nil))) (.agg ⟨_, rfl, rfl⟩ (.sc (.sc (.sc (.sc (.sc (.sc (.nl (.sc (.sc (.sc (.sc (.sc (.sc (.nl (.sc (.sc (.sc (.sc (.sc (.nl (.sc (.sc (.nl (.nl (.nl .nil))))))))))))))))))))))))) (.sc .nil))) ⟨(Em ⟨_, rfl, rfl⟩ ⟨trivial, ⟨(Av (Cd x0.fFl) (by decide)), ⟨(Av (Eb x0.fQ) (by decide)), trivial⟩⟩⟩), ⟨(Em ⟨_, rfl, rfl⟩ ⟨trivial, ⟨trivial, ⟨trivial, ⟨trivial, ⟨trivial, ⟨trivial, ⟨(Bq ⟨_, _, rfl, rfl⟩), ⟨trivial, ⟨trivial, ⟨trivial, ⟨trivial, ⟨trivial, ⟨trivial, ⟨(Bq ⟨_, _, rfl, rfl⟩), ⟨trivial, ⟨trivial, ⟨trivial, ⟨trivial, ⟨trivial, ⟨(Bq ⟨_, _, rfl, rfl⟩), ⟨trivial, ⟨trivial, ⟨(Bq ⟨_, _, rfl, rfl⟩), ⟨(Bq ⟨_, _, rfl, rfl⟩), ⟨(Bq ⟨_, _, rfl, rfl⟩), trivial⟩⟩⟩⟩⟩⟩⟩⟩⟩⟩⟩⟩⟩⟩⟩⟩⟩⟩⟩⟩⟩⟩⟩⟩⟩), ⟨trivial, trivial⟩⟩⟩) ?_
        have e : F5 x0 kd d = ((⟨x0.fLast, x0.fFl, x0.fQ⟩ : Ci), Gx, false) := by
         clear s0 s2 s4 s6 s9 s11 s12 s46 s47
         try simp only [decide_eq_true_eq, decide_eq_false_iff_not] at h13 h14 h18 h19 h25 h26 h32
         rw [← D3]; unfold Hf
         (repeat' split) <;> first | rfl | (exfalso; omega) | (simp_all; done) | (simp_all; omega)
        rw [e]
        first | done | rfl
     ·refine El h25 ?_
      refine El h25 ?_
      refine Hg h25 ?_
      refine B5 rfl ?_
      refine Bx ?_
      refine Ae ((decide (kd = 5))) (fun h48 => ?_) (fun h48 => ?_)
      ·refine C1 h48 ?_
       refine C1 h48 ?_
       refine N6 ?_
       refine Ld h48 ?_
       refine C9 (nT h19) ?_
       refine Ac (o' := 1) rfl ?_
       refine Bp (c := x7) s12 (.here) rfl ?_
       obtain ⟨y50, he49⟩ : ∃ y, (x0.fFl)[((Cl (fun y : Af => y.fId == d) x0.fFl 0)).toNat]? = some y := ⟨_, List.getElem?_eq_getElem (by first | omega | (simp at *; omega))⟩
       refine Le (y := y50) (y' := ({ y50 with fSt := 3 } : Af)) (k := 5) (v := (.int .i64 y50.fSt)) s12 ⟨_, _, rfl, rfl, rfl, rfl⟩ Dn (by omega) he49 Bf (by omega) rfl rfl rfl fun H s51 => ?_
       refine Ao s51 Do rfl ?_
       have c52 := Oa (n + 8) (by omega) d
       refine Hs s51 rfl (.cons .sc (.cons .sc .nil)) (c52) ⟨_, rfl, rfl⟩ (G0 _) ?_
       rintro _ _ H ⟨x53, x54, x55, x56, x57, x58, lx53, lx54, lx55, lx56, lx57, lx58, rfl, rfl⟩ s59
       simp only [List.nil_append, List.cons_append] at s59
       refine A5 (cs' := [.sc (.int .i64 x0.fLast), x7, x8]) s59 Qj (Ai (Aa rfl (Aa lx7 (Aa lx8 rfl)))) rfl (A3 rfl) rfl fun H s60 => ?_
       refine A5 (cs' := [.sc (.int .i64 ((Au d).fType)), .sc (.bool (Au d).fDup), .sc (.int .i64 ((Au d).fQos)), .sc (.bool (Au d).fRetain), .sc (.int .i64 ((Au d).fId)), .sc (.string ((Au d).fTopic)), x53, .sc (.string ((Au d).fClient)), .sc (.int .i64 ((Au d).fLevel)), .sc (.bool (Au d).fClean), .sc (.int .i64 ((Au d).fKeep)), .sc (.bool (Au d).fHasWill), .sc (.string ((Au d).fWTopic)), x54, .sc (.int .i64 ((Au d).fWQos)), .sc (.bool (Au d).fWRetain), .sc (.bool (Au d).fHasUser), .sc (.string ((Au d).fUser)), .sc (.bool (Au d).fHasPass), x55, .sc (.int .i64 ((Au d).fCode)), .sc (.bool (Au d).fPresent), x56, x57, x58]) s60 Qj (Ai (Aa rfl (Aa rfl (Aa rfl (Aa rfl (Aa rfl (Aa rfl (Aa lx53 (Aa rfl (Aa rfl (Aa rfl (Aa rfl (Aa rfl (Aa rfl (Aa lx54 (Aa rfl (Aa rfl (Aa rfl (Aa rfl (Aa rfl (Aa lx55 (Aa rfl (Aa rfl (Aa lx56 (Aa lx57 (Aa lx58 rfl)))))))))))))))))))))))))) rfl (A3 rfl) rfl fun H s61 => ?_
       refine Ao s61 Do rfl ?_
       refine Ao s61 (.here) rfl ?_
       refine Ec (Dm s61 rfl (.agg ⟨_, rfl, rfl⟩ (.sc (.own zP8 (.own zP9 .nil))) (.agg ⟨_, rfl, rfl⟩ (.sc (.sc (.sc (.sc (.sc (.sc (.own zP7 (.sc (.sc (.sc (.sc (.sc (.sc (.own zP6 (.sc (.sc (.sc (.sc (.sc (.own S9 (.sc (.sc (.own I6 (.own Mn (.own Dn .nil))))))))))))))))))))))))) (.sc .nil))) ⟨(Em ⟨_, rfl, rfl⟩ ⟨trivial, ⟨(Av (Cd (x0.fFl.set ((Cl (fun y : Af => y.fId == d) x0.fFl 0)).toNat ({ y50 with fSt := 3 } : Af))) (by decide)), ⟨(Av (Eb x0.fQ) (by decide)), trivial⟩⟩⟩), ⟨(Em ⟨_, rfl, rfl⟩ ⟨trivial, ⟨trivial, ⟨trivial, ⟨trivial, ⟨trivial, ⟨trivial, ⟨(Av (Hm ((Au d).fBody)) (by decide)), ⟨trivial, ⟨trivial, ⟨trivial, ⟨trivial, ⟨trivial, ⟨trivial, ⟨(Av (Hm ((Au d).fWBody)) (by decide)), ⟨trivial, ⟨trivial, ⟨trivial, ⟨trivial, ⟨trivial, ⟨(Av (Hm ((Au d).fPass)) (by decide)), ⟨trivial, ⟨trivial, ⟨(Av (Ia ((Au d).fWants)) (by decide)), ⟨(Av (U1 ((Au d).fNames)) (by decide)), ⟨(Av (Uz ((Au d).fCodes)) (by decide)), trivial⟩⟩⟩⟩⟩⟩⟩⟩⟩⟩⟩⟩⟩⟩⟩⟩⟩⟩⟩⟩⟩⟩⟩⟩⟩), ⟨trivial, trivial⟩⟩⟩) ?_
       have e : F5 x0 kd d = ((⟨x0.fLast, (x0.fFl.set ((Cl (fun y : Af => y.fId == d) x0.fFl 0)).toNat ({ y50 with fSt := 3 } : Af)), x0.fQ⟩ : Ci), (Au d), true) := by
        clear s0 s2 s4 s6 s9 s11 s12 s51 s59 s60 s61
        try simp only [decide_eq_true_eq, decide_eq_false_iff_not] at h13 h14 h18 h19 h25 h48
        rw [← D3]; unfold Hf
        (repeat' split) <;> first | rfl | (exfalso; omega) | (simp_all; done) | (simp_all; omega)
       rw [e]
       first | done | rfl
      ·refine El h48 ?_
       refine El h48 ?_
       refine Hg h48 ?_
       refine B5 rfl ?_
       refine Ao s12 (.here) rfl ?_
       refine E5 (cs := [.sc (.int .i64 0), .sc (.bool false), .sc (.int .i64 0), .sc (.bool false), .sc (.int .i64 0), .sc (.string (⟨#[]⟩)), .nl, .sc (.string (⟨#[]⟩)), .sc (.int .i64 0), .sc (.bool false), .sc (.int .i64 0), .sc (.bool false), .sc (.string (⟨#[]⟩)), .nl, .sc (.int .i64 0), .sc (.bool false), .sc (.bool false), .sc (.string (⟨#[]⟩)), .sc (.bool false), .nl, .sc (.int .i64 0), .sc (.bool false), .nl, .nl, .nl]) rfl ?_
       refine A5 (cs' := [.sc (.int .i64 x0.fLast), x7, x8]) s12 I6 (Ai (Aa rfl (Aa lx7 (Aa lx8 rfl)))) rfl (A3 rfl) rfl fun H s62 => ?_
       refine A5 (cs' := [.sc (.int .i64 0), .sc (.bool false), .sc (.int .i64 0), .sc (.bool false), .sc (.int .i64 0), .sc (.string (⟨#[]⟩)), .nl, .sc (.string (⟨#[]⟩)), .sc (.int .i64 0), .sc (.bool false), .sc (.int .i64 0), .sc (.bool false), .sc (.string (⟨#[]⟩)), .nl, .sc (.int .i64 0), .sc (.bool false), .sc (.bool false), .sc (.string (⟨#[]⟩)), .sc (.bool false), .nl, .sc (.int .i64 0), .sc (.bool false), .nl, .nl, .nl]) s62 I6 (Ai (Aa rfl (Aa rfl (Aa rfl (Aa rfl (Aa rfl (Aa rfl (Aa rfl (Aa rfl (Aa rfl (Aa rfl (Aa rfl (Aa rfl (Aa rfl (Aa rfl (Aa rfl (Aa rfl (Aa rfl (Aa rfl (Aa rfl (Aa rfl (Aa rfl (Aa rfl (Aa rfl (Aa rfl (Aa rfl rfl)))))))))))))))))))))))))) rfl (A3 rfl) rfl fun H s63 => ?_
       refine Ao s63 Do rfl ?_
       refine Ao s63 (.here) rfl ?_
       refine Ec (Dm s63 rfl (.agg ⟨_, rfl, rfl⟩ (.sc (.own I6 (.own Mn .nil))) (.agg ⟨_, rfl, rfl⟩ (.sc (.sc (.sc (.sc (.sc (.sc (.nl (.sc (.sc (.sc (.sc (.sc (.sc (.nl (.sc (.sc (.sc (.sc (.sc (.nl (.sc (.sc (.nl (.nl (.nl .nil))))))))))))))))))))))))) (.sc .nil))) ⟨(Em ⟨_, rfl, rfl⟩ ⟨trivial, ⟨(Av (Cd x0.fFl) (by decide)), ⟨(Av (Eb x0.fQ) (by decide)), trivial⟩⟩⟩), ⟨(Em ⟨_, rfl, rfl⟩ ⟨trivial, ⟨trivial, ⟨trivial, ⟨trivial, ⟨trivial, ⟨trivial, ⟨(Bq ⟨_, _, rfl, rfl⟩), ⟨trivial, ⟨trivial, ⟨trivial, ⟨trivial, ⟨trivial, ⟨trivial, ⟨(Bq ⟨_, _, rfl, rfl⟩), ⟨trivial, ⟨trivial, ⟨trivial, ⟨trivial, ⟨trivial, ⟨(Bq ⟨_, _, rfl, rfl⟩), ⟨trivial, ⟨trivial, ⟨(Bq ⟨_, _, rfl, rfl⟩), ⟨(Bq ⟨_, _, rfl, rfl⟩), ⟨(Bq ⟨_, _, rfl, rfl⟩), trivial⟩⟩⟩⟩⟩⟩⟩⟩⟩⟩⟩⟩⟩⟩⟩⟩⟩⟩⟩⟩⟩⟩⟩⟩⟩), ⟨trivial, trivial⟩⟩⟩) ?_
       have e : F5 x0 kd d = ((⟨x0.fLast, x0.fFl, x0.fQ⟩ : Ci), Gx, false) := by
        clear s0 s2 s4 s6 s9 s11 s12 s62 s63
        try simp only [decide_eq_true_eq, decide_eq_false_iff_not] at h13 h14 h18 h19 h25 h48
        rw [← D3]; unfold Hf
        (repeat' split) <;> first | rfl | (exfalso; omega) | (simp_all; done) | (simp_all; omega)
       rw [e]
       first | done | rfl
   ·refine El h18 ?_
    refine El h18 ?_
    refine Hg h18 ?_
    refine Hv ?_
    refine B5 rfl ?_
    refine Bx ?_
    refine Ae ((decide (kd = 7))) (fun h64 => ?_) (fun h64 => ?_)
    ·refine C1 h64 ?_
     refine C1 h64 ?_
     refine Bx ?_
     refine Ld h64 ?_
     refine Ae ((decide (y17.fSt = 3))) (fun h65 => ?_) (fun h65 => ?_)
     ·refine C9 h65 ?_
      refine Ac (o' := 1) rfl ?_
      refine Bp (c := x7) s12 (.here) rfl ?_
      refine Jy (by omega) (by omega) ?_
      refine Pb s12 rfl rfl rfl rfl ⟨_, _, rfl, rfl, rfl, rfl⟩ Dn (by omega) (by omega) Bf Df rfl fun x66 H lx66 s67 => ?_
      refine Ac (o' := 1) rfl ?_
      refine A5 (cs' := [.sc (.int .i64 x0.fLast), x66, x8]) s67 Do (Ak lx66) rfl (A3 rfl) rfl fun H s68 => ?_
      refine Ao s68 (.here) rfl ?_
      refine E5 (cs := [.sc (.int .i64 0), .sc (.bool false), .sc (.int .i64 0), .sc (.bool false), .sc (.int .i64 0), .sc (.string (⟨#[]⟩)), .nl, .sc (.string (⟨#[]⟩)), .sc (.int .i64 0), .sc (.bool false), .sc (.int .i64 0), .sc (.bool false), .sc (.string (⟨#[]⟩)), .nl, .sc (.int .i64 0), .sc (.bool false), .sc (.bool false), .sc (.string (⟨#[]⟩)), .sc (.bool false), .nl, .sc (.int .i64 0), .sc (.bool false), .nl, .nl, .nl]) rfl ?_
      refine A5 (cs' := [.sc (.int .i64 x0.fLast), x66, x8]) s68 I6 (Ai (Aa rfl (Aa lx66 (Aa lx8 rfl)))) rfl (A3 rfl) rfl fun H s69 => ?_
      refine A5 (cs' := [.sc (.int .i64 0), .sc (.bool false), .sc (.int .i64 0), .sc (.bool false), .sc (.int .i64 0), .sc (.string (⟨#[]⟩)), .nl, .sc (.string (⟨#[]⟩)), .sc (.int .i64 0), .sc (.bool false), .sc (.int .i64 0), .sc (.bool false), .sc (.string (⟨#[]⟩)), .nl, .sc (.int .i64 0), .sc (.bool false), .sc (.bool false), .sc (.string (⟨#[]⟩)), .sc (.bool false), .nl, .sc (.int .i64 0), .sc (.bool false), .nl, .nl, .nl]) s69 I6 (Ai (Aa rfl (Aa rfl (Aa rfl (Aa rfl (Aa rfl (Aa rfl (Aa rfl (Aa rfl (Aa rfl (Aa rfl (Aa rfl (Aa rfl (Aa rfl (Aa rfl (Aa rfl (Aa rfl (Aa rfl (Aa rfl (Aa rfl (Aa rfl (Aa rfl (Aa rfl (Aa rfl (Aa rfl (Aa rfl rfl)))))))))))))))))))))))))) rfl (A3 rfl) rfl fun H s70 => ?_
      refine Ao s70 Do rfl ?_
      refine Ao s70 (.here) rfl ?_
      refine Ec (Dm s70 rfl (.agg ⟨_, rfl, rfl⟩ (.sc (.own Mn (.own Mn .nil))) (.agg ⟨_, rfl, rfl⟩ (.sc (.sc (.sc (.sc (.sc (.sc (.nl (.sc (.sc (.sc (.sc (.sc (.sc (.nl (.sc (.sc (.sc (.sc (.sc (.nl (.sc (.sc (.nl (.nl (.nl .nil))))))))))))))))))))))))) (.sc .nil))) ⟨(Em ⟨_, rfl, rfl⟩ ⟨trivial, ⟨(Av (Cd (x0.fFl.take (Cl (fun y : Af => y.fId == d) x0.fFl 0).toNat ++ x0.fFl.drop ((Cl (fun y : Af => y.fId == d) x0.fFl 0).toNat + 1))) (by decide)), ⟨(Av (Eb x0.fQ) (by decide)), trivial⟩⟩⟩), ⟨(Em ⟨_, rfl, rfl⟩ ⟨trivial, ⟨trivial, ⟨trivial, ⟨trivial, ⟨trivial, ⟨trivial, ⟨(Bq ⟨_, _, rfl, rfl⟩), ⟨trivial, ⟨trivial, ⟨trivial, ⟨trivial, ⟨trivial, ⟨trivial, ⟨(Bq ⟨_, _, rfl, rfl⟩), ⟨trivial, ⟨trivial, ⟨trivial, ⟨trivial, ⟨trivial, ⟨(Bq ⟨_, _, rfl, rfl⟩), ⟨trivial, ⟨trivial, ⟨(Bq ⟨_, _, rfl, rfl⟩), ⟨(Bq ⟨_, _, rfl, rfl⟩), ⟨(Bq ⟨_, _, rfl, rfl⟩), trivial⟩⟩⟩⟩⟩⟩⟩⟩⟩⟩⟩⟩⟩⟩⟩⟩⟩⟩⟩⟩⟩⟩⟩⟩⟩), ⟨trivial, trivial⟩⟩⟩) ?_
      have e : F5 x0 kd d = ((⟨x0.fLast, (x0.fFl.take (Cl (fun y : Af => y.fId == d) x0.fFl 0).toNat ++ x0.fFl.drop ((Cl (fun y : Af => y.fId == d) x0.fFl 0).toNat + 1)), x0.fQ⟩ : Ci), Gx, true) := by
       clear s0 s2 s4 s6 s9 s11 s12 s67 s68 s69 s70
       try simp only [decide_eq_true_eq, decide_eq_false_iff_not] at h13 h14 h18 h64 h65
       rw [← D3]; unfold Hf
       (repeat' split) <;> first | rfl | (exfalso; omega) | (simp_all; done) | (simp_all; omega)
      rw [e]
      first | done | rfl
     ·refine B5 h65 ?_
      refine Bx ?_
      refine Ae ((decide (kd = 5))) (fun h71 => ?_) (fun h71 => ?_)
      ·refine C1 h71 ?_
       refine C1 h71 ?_
       refine N6 ?_
       refine Ld h71 ?_
       refine Ae ((decide (y17.fSt = 1))) (fun h72 => ?_) (fun h72 => ?_)
       ·refine B5 (nF h72) ?_
        refine Ao s12 (.here) rfl ?_
        refine E5 (cs := [.sc (.int .i64 0), .sc (.bool false), .sc (.int .i64 0), .sc (.bool false), .sc (.int .i64 0), .sc (.string (⟨#[]⟩)), .nl, .sc (.string (⟨#[]⟩)), .sc (.int .i64 0), .sc (.bool false), .sc (.int .i64 0), .sc (.bool false), .sc (.string (⟨#[]⟩)), .nl, .sc (.int .i64 0), .sc (.bool false), .sc (.bool false), .sc (.string (⟨#[]⟩)), .sc (.bool false), .nl, .sc (.int .i64 0), .sc (.bool false), .nl, .nl, .nl]) rfl ?_
        refine A5 (cs' := [.sc (.int .i64 x0.fLast), x7, x8]) s12 I6 (Ai (Aa rfl (Aa lx7 (Aa lx8 rfl)))) rfl (A3 rfl) rfl fun H s73 => ?_
        refine A5 (cs' := [.sc (.int .i64 0), .sc (.bool false), .sc (.int .i64 0), .sc (.bool false), .sc (.int .i64 0), .sc (.string (⟨#[]⟩)), .nl, .sc (.string (⟨#[]⟩)), .sc (.int .i64 0), .sc (.bool false), .sc (.int .i64 0), .sc (.bool false), .sc (.string (⟨#[]⟩)), .nl, .sc (.int .i64 0), .sc (.bool false), .sc (.bool false), .sc (.string (⟨#[]⟩)), .sc (.bool false), .nl, .sc (.int .i64 0), .sc (.bool false), .nl, .nl, .nl]) s73 I6 (Ai (Aa rfl (Aa rfl (Aa rfl (Aa rfl (Aa rfl (Aa rfl (Aa rfl (Aa rfl (Aa rfl (Aa rfl (Aa rfl (Aa rfl (Aa rfl (Aa rfl (Aa rfl (Aa rfl (Aa rfl (Aa rfl (Aa rfl (Aa rfl (Aa rfl (Aa rfl (Aa rfl (Aa rfl (Aa rfl rfl)))))))))))))))))))))))))) rfl (A3 rfl) rfl fun H s74 => ?_
        refine Ao s74 Do rfl ?_
        refine Ao s74 (.here) rfl ?_
        refine Ec (Dm s74 rfl (.agg ⟨_, rfl, rfl⟩ (.sc (.own I6 (.own Mn .nil))) (.agg ⟨_, rfl, rfl⟩ (.sc (.sc (.sc (.sc (.sc (.sc (.nl (.sc (.sc (.sc (.sc (.sc (.sc (.nl (.sc (.sc (.sc (.sc (.sc (.nl (.sc (.sc (.nl (.nl (.nl .nil))))))))))))))))))))))))) (.sc .nil))) ⟨(Em ⟨_, rfl, rfl⟩ ⟨trivial, ⟨(Av (Cd x0.fFl) (by decide)), ⟨(Av (Eb x0.fQ) (by decide)), trivial⟩⟩⟩), ⟨(Em ⟨_, rfl, rfl⟩ ⟨trivial, ⟨trivial, ⟨trivial, ⟨trivial, ⟨trivial, ⟨trivial, ⟨(Bq ⟨_, _, rfl, rfl⟩), ⟨trivial, ⟨trivial, ⟨trivial, ⟨trivial, ⟨trivial, ⟨trivial, ⟨(Bq ⟨_, _, rfl, rfl⟩), ⟨trivial, ⟨trivial, ⟨trivial, ⟨trivial, ⟨trivial, ⟨(Bq ⟨_, _, rfl, rfl⟩), ⟨trivial, ⟨trivial, ⟨(Bq ⟨_, _, rfl, rfl⟩), ⟨(Bq ⟨_, _, rfl, rfl⟩), ⟨(Bq ⟨_, _, rfl, rfl⟩), trivial⟩⟩⟩⟩⟩⟩⟩⟩⟩⟩⟩⟩⟩⟩⟩⟩⟩⟩⟩⟩⟩⟩⟩⟩⟩), ⟨trivial, trivial⟩⟩⟩) ?_
        have e : F5 x0 kd d = ((⟨x0.fLast, x0.fFl, x0.fQ⟩ : Ci), Gx, false) := by
         clear s0 s2 s4 s6 s9 s11 s12 s73 s74
         try simp only [decide_eq_true_eq, decide_eq_false_iff_not] at h13 h14 h18 h64 h65 h71 h72
         rw [← D3]; unfold Hf
         (repeat' split) <;> first | rfl | (exfalso; omega) | (simp_all; done) | (simp_all; omega)
        rw [e]
        first | done | rfl
       ·refine C9 (nT h72) ?_
        refine Ac (o' := 1) rfl ?_
        refine Bp (c := x7) s12 (.here) rfl ?_
        obtain ⟨y76, he75⟩ : ∃ y, (x0.fFl)[((Cl (fun y : Af => y.fId == d) x0.fFl 0)).toNat]? = some y := ⟨_, List.getElem?_eq_getElem (by first | omega | (simp at *; omega))⟩
        refine Le (y := y76) (y' := ({ y76 with fSt := 3 } : Af)) (k := 5) (v := (.int .i64 y76.fSt)) s12 ⟨_, _, rfl, rfl, rfl, rfl⟩ Dn (by omega) he75 Bf (by omega) rfl rfl rfl fun H s77 => ?_
        refine Ao s77 Do rfl ?_
        have c78 := Oa (n + 8) (by omega) d
        refine Hs s77 rfl (.cons .sc (.cons .sc .nil)) (c78) ⟨_, rfl, rfl⟩ (G0 _) ?_
        rintro _ _ H ⟨x79, x80, x81, x82, x83, x84, lx79, lx80, lx81, lx82, lx83, lx84, rfl, rfl⟩ s85
        simp only [List.nil_append, List.cons_append] at s85
        refine A5 (cs' := [.sc (.int .i64 x0.fLast), x7, x8]) s85 Qj (Ai (Aa rfl (Aa lx7 (Aa lx8 rfl)))) rfl (A3 rfl) rfl fun H s86 => ?_
        refine A5 (cs' := [.sc (.int .i64 ((Au d).fType)), .sc (.bool (Au d).fDup), .sc (.int .i64 ((Au d).fQos)), .sc (.bool (Au d).fRetain), .sc (.int .i64 ((Au d).fId)), .sc (.string ((Au d).fTopic)), x79, .sc (.string ((Au d).fClient)), .sc (.int .i64 ((Au d).fLevel)), .sc (.bool (Au d).fClean), .sc (.int .i64 ((Au d).fKeep)), .sc (.bool (Au d).fHasWill), .sc (.string ((Au d).fWTopic)), x80, .sc (.int .i64 ((Au d).fWQos)), .sc (.bool (Au d).fWRetain), .sc (.bool (Au d).fHasUser), .sc (.string ((Au d).fUser)), .sc (.bool (Au d).fHasPass), x81, .sc (.int .i64 ((Au d).fCode)), .sc (.bool (Au d).fPresent), x82, x83, x84]) s86 Qj (Ai (Aa rfl (Aa rfl (Aa rfl (Aa rfl (Aa rfl (Aa rfl (Aa lx79 (Aa rfl (Aa rfl (Aa rfl (Aa rfl (Aa rfl (Aa rfl (Aa lx80 (Aa rfl (Aa rfl (Aa rfl (Aa rfl (Aa rfl (Aa lx81 (Aa rfl (Aa rfl (Aa lx82 (Aa lx83 (Aa lx84 rfl)))))))))))))))))))))))))) rfl (A3 rfl) rfl fun H s87 => ?_
        refine Ao s87 Do rfl ?_
        refine Ao s87 (.here) rfl ?_
        refine Ec (Dm s87 rfl (.agg ⟨_, rfl, rfl⟩ (.sc (.own zP8 (.own zP9 .nil))) (.agg ⟨_, rfl, rfl⟩ (.sc (.sc (.sc (.sc (.sc (.sc (.own zP7 (.sc (.sc (.sc (.sc (.sc (.sc (.own zP6 (.sc (.sc (.sc (.sc (.sc (.own S9 (.sc (.sc (.own I6 (.own Mn (.own Dn .nil))))))))))))))))))))))))) (.sc .nil))) ⟨(Em ⟨_, rfl, rfl⟩ ⟨trivial, ⟨(Av (Cd (x0.fFl.set ((Cl (fun y : Af => y.fId == d) x0.fFl 0)).toNat ({ y76 with fSt := 3 } : Af))) (by decide)), ⟨(Av (Eb x0.fQ) (by decide)), trivial⟩⟩⟩), ⟨(Em ⟨_, rfl, rfl⟩ ⟨trivial, ⟨trivial, ⟨trivial, ⟨trivial, ⟨trivial, ⟨trivial, ⟨(Av (Hm ((Au d).fBody)) (by decide)), ⟨trivial, ⟨trivial, ⟨trivial, ⟨trivial, ⟨trivial, ⟨trivial, ⟨(Av (Hm ((Au d).fWBody)) (by decide)), ⟨trivial, ⟨trivial, ⟨trivial, ⟨trivial, ⟨trivial, ⟨(Av (Hm ((Au d).fPass)) (by decide)), ⟨trivial, ⟨trivial, ⟨(Av (Ia ((Au d).fWants)) (by decide)), ⟨(Av (U1 ((Au d).fNames)) (by decide)), ⟨(Av (Uz ((Au d).fCodes)) (by decide)), trivial⟩⟩⟩⟩⟩⟩⟩⟩⟩⟩⟩⟩⟩⟩⟩⟩⟩⟩⟩⟩⟩⟩⟩⟩⟩), ⟨trivial, trivial⟩⟩⟩) ?_
        have e : F5 x0 kd d = ((⟨x0.fLast, (x0.fFl.set ((Cl (fun y : Af => y.fId == d) x0.fFl 0)).toNat ({ y76 with fSt := 3 } : Af)), x0.fQ⟩ : Ci), (Au d), true) := by
         clear s0 s2 s4 s6 s9 s11 s12 s77 s85 s86 s87
         try simp only [decide_eq_true_eq, decide_eq_false_iff_not] at h13 h14 h18 h64 h65 h71 h72
         rw [← D3]; unfold Hf
         (repeat' split) <;> first | rfl | (exfalso; omega) | (simp_all; done) | (simp_all; omega)
        rw [e]
        first | done | rfl
      ·refine El h71 ?_
       refine El h71 ?_
       refine Hg h71 ?_
       refine B5 rfl ?_
       refine Ao s12 (.here) rfl ?_
       refine E5 (cs := [.sc (.int .i64 0), .sc (.bool false), .sc (.int .i64 0), .sc (.bool false), .sc (.int .i64 0), .sc (.string (⟨#[]⟩)), .nl, .sc (.string (⟨#[]⟩)), .sc (.int .i64 0), .sc (.bool false), .sc (.int .i64 0), .sc (.bool false), .sc (.string (⟨#[]⟩)), .nl, .sc (.int .i64 0), .sc (.bool false), .sc (.bool false), .sc (.string (⟨#[]⟩)), .sc (.bool false), .nl, .sc (.int .i64 0), .sc (.bool false), .nl, .nl, .nl]) rfl ?_
       refine A5 (cs' := [.sc (.int .i64 x0.fLast), x7, x8]) s12 I6 (Ai (Aa rfl (Aa lx7 (Aa lx8 rfl)))) rfl (A3 rfl) rfl fun H s88 => ?_
       refine A5 (cs' := [.sc (.int .i64 0), .sc (.bool false), .sc (.int .i64 0), .sc (.bool false), .sc (.int .i64 0), .sc (.string (⟨#[]⟩)), .nl, .sc (.string (⟨#[]⟩)), .sc (.int .i64 0), .sc (.bool false), .sc (.int .i64 0), .sc (.bool false), .sc (.string (⟨#[]⟩)), .nl, .sc (.int .i64 0), .sc (.bool false), .sc (.bool false), .sc (.string (⟨#[]⟩)), .sc (.bool false), .nl, .sc (.int .i64 0), .sc (.bool false), .nl, .nl, .nl]) s88 I6 (Ai (Aa rfl (Aa rfl (Aa rfl (Aa rfl (Aa rfl (Aa rfl (Aa rfl (Aa rfl (Aa rfl (Aa rfl (Aa rfl (Aa rfl (Aa rfl (Aa rfl (Aa rfl (Aa rfl (Aa rfl (Aa rfl (Aa rfl (Aa rfl (Aa rfl (Aa rfl (Aa rfl (Aa rfl (Aa rfl rfl)))))))))))))))))))))))))) rfl (A3 rfl) rfl fun H s89 => ?_
       refine Ao s89 Do rfl ?_
       refine Ao s89 (.here) rfl ?_
       refine Ec (Dm s89 rfl (.agg ⟨_, rfl, rfl⟩ (.sc (.own I6 (.own Mn .nil))) (.agg ⟨_, rfl, rfl⟩ (.sc (.sc (.sc (.sc (.sc (.sc (.nl (.sc (.sc (.sc (.sc (.sc (.sc (.nl (.sc (.sc (.sc (.sc (.sc (.nl (.sc (.sc (.nl (.nl (.nl .nil))))))))))))))))))))))))) (.sc .nil))) ⟨(Em ⟨_, rfl, rfl⟩ ⟨trivial, ⟨(Av (Cd x0.fFl) (by decide)), ⟨(Av (Eb x0.fQ) (by decide)), trivial⟩⟩⟩), ⟨(Em ⟨_, rfl, rfl⟩ ⟨trivial, ⟨trivial, ⟨trivial, ⟨trivial, ⟨trivial, ⟨trivial, ⟨(Bq ⟨_, _, rfl, rfl⟩), ⟨trivial, ⟨trivial, ⟨trivial, ⟨trivial, ⟨trivial, ⟨trivial, ⟨(Bq ⟨_, _, rfl, rfl⟩), ⟨trivial, ⟨trivial, ⟨trivial, ⟨trivial, ⟨trivial, ⟨(Bq ⟨_, _, rfl, rfl⟩), ⟨trivial, ⟨trivial, ⟨(Bq ⟨_, _, rfl, rfl⟩), ⟨(Bq ⟨_, _, rfl, rfl⟩), ⟨(Bq ⟨_, _, rfl, rfl⟩), trivial⟩⟩⟩⟩⟩⟩⟩⟩⟩⟩⟩⟩⟩⟩⟩⟩⟩⟩⟩⟩⟩⟩⟩⟩⟩), ⟨trivial, trivial⟩⟩⟩) ?_
       have e : F5 x0 kd d = ((⟨x0.fLast, x0.fFl, x0.fQ⟩ : Ci), Gx, false) := by
        clear s0 s2 s4 s6 s9 s11 s12 s88 s89
        try simp only [decide_eq_true_eq, decide_eq_false_iff_not] at h13 h14 h18 h64 h65 h71
        rw [← D3]; unfold Hf
        (repeat' split) <;> first | rfl | (exfalso; omega) | (simp_all; done) | (simp_all; omega)
       rw [e]
       first | done | rfl
    ·refine El h64 ?_
     refine El h64 ?_
     refine Hg h64 ?_
     refine B5 rfl ?_
     refine Bx ?_
     refine Ae ((decide (kd = 5))) (fun h90 => ?_) (fun h90 => ?_)
     ·refine C1 h90 ?_
      refine C1 h90 ?_
      refine N6 ?_
      refine Ld h90 ?_
      refine Ae ((decide (y17.fSt = 1))) (fun h91 => ?_) (fun h91 => ?_)
      ·refine B5 (nF h91) ?_
       refine Ao s12 (.here) rfl ?_
       refine E5 (cs := [.sc (.int .i64 0), .sc (.bool false), .sc (.int .i64 0), .sc (.bool false), .sc (.int .i64 0), .sc (.string (⟨#[]⟩)), .nl, .sc (.string (⟨#[]⟩)), .sc (.int .i64 0), .sc (.bool false), .sc (.int .i64 0), .sc (.bool false), .sc (.string (⟨#[]⟩)), .nl, .sc (.int .i64 0), .sc (.bool false), .sc (.bool false), .sc (.string (⟨#[]⟩)), .sc (.bool false), .nl, .sc (.int .i64 0), .sc (.bool false), .nl, .nl, .nl]) rfl ?_
       refine A5 (cs' := [.sc (.int .i64 x0.fLast), x7, x8]) s12 I6 (Ai (Aa rfl (Aa lx7 (Aa lx8 rfl)))) rfl (A3 rfl) rfl fun H s92 => ?_
       refine A5 (cs' := [.sc (.int .i64 0), .sc (.bool false), .sc (.int .i64 0), .sc (.bool false), .sc (.int .i64 0), .sc (.string (⟨#[]⟩)), .nl, .sc (.string (⟨#[]⟩)), .sc (.int .i64 0), .sc (.bool false), .sc (.int .i64 0), .sc (.bool false), .sc (.string (⟨#[]⟩)), .nl, .sc (.int .i64 0), .sc (.bool false), .sc (.bool false), .sc (.string (⟨#[]⟩)), .sc (.bool false), .nl, .sc (.int .i64 0), .sc (.bool false), .nl, .nl, .nl]) s92 I6 (Ai (Aa rfl (Aa rfl (Aa rfl (Aa rfl (Aa rfl (Aa rfl (Aa rfl (Aa rfl (Aa rfl (Aa rfl (Aa rfl (Aa rfl (Aa rfl (Aa rfl (Aa rfl (Aa rfl (Aa rfl (Aa rfl (Aa rfl (Aa rfl (Aa rfl (Aa rfl (Aa rfl (Aa rfl (Aa rfl rfl)))))))))))))))))))))))))) rfl (A3 rfl) rfl fun H s93 => ?_
       refine Ao s93 Do rfl ?_
       refine Ao s93 (.here) rfl ?_
       refine Ec (Dm s93 rfl (.agg ⟨_, rfl, rfl⟩ (.sc (.own I6 (.own Mn .nil))) (.agg ⟨_, rfl, rfl⟩ (.sc (.sc (.sc (.sc (.sc (.sc (.nl (.sc (.sc (.sc (.sc (.sc (.sc (.nl (.sc (.sc (.sc (.sc (.sc (.nl (.sc (.sc (.nl (.nl (.nl .nil))))))))))))))))))))))))) (.sc .nil))) ⟨(Em ⟨_, rfl, rfl⟩ ⟨trivial, ⟨(Av (Cd x0.fFl) (by decide)), ⟨(Av (Eb x0.fQ) (by decide)), trivial⟩⟩⟩), ⟨(Em ⟨_, rfl, rfl⟩ ⟨trivial, ⟨trivial, ⟨trivial, ⟨trivial, ⟨trivial, ⟨trivial, ⟨(Bq ⟨_, _, rfl, rfl⟩), ⟨trivial, ⟨trivial, ⟨trivial, ⟨trivial, ⟨trivial, ⟨trivial, ⟨(Bq ⟨_, _, rfl, rfl⟩), ⟨trivial, ⟨trivial, ⟨trivial, ⟨trivial, ⟨trivial, ⟨(Bq ⟨_, _, rfl, rfl⟩), ⟨trivial, ⟨trivial, ⟨(Bq ⟨_, _, rfl, rfl⟩), ⟨(Bq ⟨_, _, rfl, rfl⟩), ⟨(Bq ⟨_, _, rfl, rfl⟩), trivial⟩⟩⟩⟩⟩⟩⟩⟩⟩⟩⟩⟩⟩⟩⟩⟩⟩⟩⟩⟩⟩⟩⟩⟩⟩), ⟨trivial, trivial⟩⟩⟩) ?_
       have e : F5 x0 kd d = ((⟨x0.fLast, x0.fFl, x0.fQ⟩ : Ci), Gx, false) := by
        clear s0 s2 s4 s6 s9 s11 s12 s92 s93
        try simp only [decide_eq_true_eq, decide_eq_false_iff_not] at h13 h14 h18 h64 h90 h91
        rw [← D3]; unfold Hf
        (repeat' split) <;> first | rfl | (exfalso; omega) | (simp_all; done) | (simp_all; omega)
       rw [e]
       first | done | rfl
      ·refine C9 (nT h91) ?_
       refine Ac (o' := 1) rfl ?_
       refine Bp (c := x7) s12 (.here) rfl ?_
       obtain ⟨y95, he94⟩ : ∃ y, (x0.fFl)[((Cl (fun y : Af => y.fId == d) x0.fFl 0)).toNat]? = some y := ⟨_, List.getElem?_eq_getElem (by first | omega | (simp at *; omega))⟩
       refine Le (y := y95) (y' := ({ y95 with fSt := 3 } : Af)) (k := 5) (v := (.int .i64 y95.fSt)) s12 ⟨_, _, rfl, rfl, rfl, rfl⟩ Dn (by omega) he94 Bf (by omega) rfl rfl rfl fun H s96 => ?_
       refine Ao s96 Do rfl ?_
       have c97 := Oa (n + 8) (by omega) d
       refine Hs s96 rfl (.cons .sc (.cons .sc .nil)) (c97) ⟨_, rfl, rfl⟩ (G0 _) ?_
       rintro _ _ H ⟨x98, x99, x100, x101, x102, x103, lx98, lx99, lx100, lx101, lx102, lx103, rfl, rfl⟩ s104
       simp only [List.nil_append, List.cons_append] at s104
       refine A5 (cs' := [.sc (.int .i64 x0.fLast), x7, x8]) s104 Qj (Ai (Aa rfl (Aa lx7 (Aa lx8 rfl)))) rfl (A3 rfl) rfl fun H s105 => ?_
       refine A5 (cs' := [.sc (.int .i64 ((Au d).fType)), .sc (.bool (Au d).fDup), .sc (.int .i64 ((Au d).fQos)), .sc (.bool (Au d).fRetain), .sc (.int .i64 ((Au d).fId)), .sc (.string ((Au d).fTopic)), x98, .sc (.string ((Au d).fClient)), .sc (.int .i64 ((Au d).fLevel)), .sc (.bool (Au d).fClean), .sc (.int .i64 ((Au d).fKeep)), .sc (.bool (Au d).fHasWill), .sc (.string ((Au d).fWTopic)), x99, .sc (.int .i64 ((Au d).fWQos)), .sc (.bool (Au d).fWRetain), .sc (.bool (Au d).fHasUser), .sc (.string ((Au d).fUser)), .sc (.bool (Au d).fHasPass), x100, .sc (.int .i64 ((Au d).fCode)), .sc (.bool (Au d).fPresent), x101, x102, x103]) s105 Qj (Ai (Aa rfl (Aa rfl (Aa rfl (Aa rfl (Aa rfl (Aa rfl (Aa lx98 (Aa rfl (Aa rfl (Aa rfl (Aa rfl (Aa rfl (Aa rfl (Aa lx99 (Aa rfl (Aa rfl (Aa rfl (Aa rfl (Aa rfl (Aa lx100 (Aa rfl (Aa rfl (Aa lx101 (Aa lx102 (Aa lx103 rfl)))))))))))))))))))))))))) rfl (A3 rfl) rfl fun H s106 => ?_
       refine Ao s106 Do rfl ?_
       refine Ao s106 (.here) rfl ?_
       refine Ec (Dm s106 rfl (.agg ⟨_, rfl, rfl⟩ (.sc (.own zP8 (.own zP9 .nil))) (.agg ⟨_, rfl, rfl⟩ (.sc (.sc (.sc (.sc (.sc (.sc (.own zP7 (.sc (.sc (.sc (.sc (.sc (.sc (.own zP6 (.sc (.sc (.sc (.sc (.sc (.own S9 (.sc (.sc (.own I6 (.own Mn (.own Dn .nil))))))))))))))))))))))))) (.sc .nil))) ⟨(Em ⟨_, rfl, rfl⟩ ⟨trivial, ⟨(Av (Cd (x0.fFl.set ((Cl (fun y : Af => y.fId == d) x0.fFl 0)).toNat ({ y95 with fSt := 3 } : Af))) (by decide)), ⟨(Av (Eb x0.fQ) (by decide)), trivial⟩⟩⟩), ⟨(Em ⟨_, rfl, rfl⟩ ⟨trivial, ⟨trivial, ⟨trivial, ⟨trivial, ⟨trivial, ⟨trivial, ⟨(Av (Hm ((Au d).fBody)) (by decide)), ⟨trivial, ⟨trivial, ⟨trivial, ⟨trivial, ⟨trivial, ⟨trivial, ⟨(Av (Hm ((Au d).fWBody)) (by decide)), ⟨trivial, ⟨trivial, ⟨trivial, ⟨trivial, ⟨trivial, ⟨(Av (Hm ((Au d).fPass)) (by decide)), ⟨trivial, ⟨trivial, ⟨(Av (Ia ((Au d).fWants)) (by decide)), ⟨(Av (U1 ((Au d).fNames)) (by decide)), ⟨(Av (Uz ((Au d).fCodes)) (by decide)), trivial⟩⟩⟩⟩⟩⟩⟩⟩⟩⟩⟩⟩⟩⟩⟩⟩⟩⟩⟩⟩⟩⟩⟩⟩⟩), ⟨trivial, trivial⟩⟩⟩) ?_
       have e : F5 x0 kd d = ((⟨x0.fLast, (x0.fFl.set ((Cl (fun y : Af => y.fId == d) x0.fFl 0)).toNat ({ y95 with fSt := 3 } : Af)), x0.fQ⟩ : Ci), (Au d), true) := by
        clear s0 s2 s4 s6 s9 s11 s12 s96 s104 s105 s106
        try simp only [decide_eq_true_eq, decide_eq_false_iff_not] at h13 h14 h18 h64 h90 h91
        rw [← D3]; unfold Hf
        (repeat' split) <;> first | rfl | (exfalso; omega) | (simp_all; done) | (simp_all; omega)
       rw [e]
       first | done | rfl
     ·refine El h90 ?_
      refine El h90 ?_
      refine Hg h90 ?_
      refine B5 rfl ?_
      refine Ao s12 (.here) rfl ?_
      refine E5 (cs := [.sc (.int .i64 0), .sc (.bool false), .sc (.int .i64 0), .sc (.bool false), .sc (.int .i64 0), .sc (.string (⟨#[]⟩)), .nl, .sc (.string (⟨#[]⟩)), .sc (.int .i64 0), .sc (.bool false), .sc (.int .i64 0), .sc (.bool false), .sc (.string (⟨#[]⟩)), .nl, .sc (.int .i64 0), .sc (.bool false), .sc (.bool false), .sc (.string (⟨#[]⟩)), .sc (.bool false), .nl, .sc (.int .i64 0), .sc (.bool false), .nl, .nl, .nl]) rfl ?_
      refine A5 (cs' := [.sc (.int .i64 x0.fLast), x7, x8]) s12 I6 (Ai (Aa rfl (Aa lx7 (Aa lx8 rfl)))) rfl (A3 rfl) rfl fun H s107 => ?_
      refine A5 (cs' := [.sc (.int .i64 0), .sc (.bool false), .sc (.int .i64 0), .sc (.bool false), .sc (.int .i64 0), .sc (.string (⟨#[]⟩)), .nl, .sc (.string (⟨#[]⟩)), .sc (.int .i64 0), .sc (.bool false), .sc (.int .i64 0), .sc (.bool false), .sc (.string (⟨#[]⟩)), .nl, .sc (.int .i64 0), .sc (.bool false), .sc (.bool false), .sc (.string (⟨#[]⟩)), .sc (.bool false), .nl, .sc (.int .i64 0), .sc (.bool false), .nl, .nl, .nl]) s107 I6 (Ai (Aa rfl (Aa rfl (Aa rfl (Aa rfl (Aa rfl (Aa rfl (Aa rfl (Aa rfl (Aa rfl (Aa rfl (Aa rfl (Aa rfl (Aa rfl (Aa rfl (Aa rfl (Aa rfl (Aa rfl (Aa rfl (Aa rfl (Aa rfl (Aa rfl (Aa rfl (Aa rfl (Aa rfl (Aa rfl rfl)))))))))))))))))))))))))) rfl (A3 rfl) rfl fun H s108 => ?_
      refine Ao s108 Do rfl ?_
      refine Ao s108 (.here) rfl ?_
      refine Ec (Dm s108 rfl (.agg ⟨_, rfl, rfl⟩ (.sc (.own I6 (.own Mn .nil))) (.agg ⟨_, rfl, rfl⟩ (.sc (.sc (.sc (.sc (.sc (.sc (.nl (.sc (.sc (.sc (.sc (.sc (.sc (.nl (.sc (.sc (.sc (.sc (.sc (.nl (.sc (.sc (.nl (.nl (.nl .nil))))))))))))))))))))))))) (.sc .nil))) ⟨(Em ⟨_, rfl, rfl⟩ ⟨trivial, ⟨(Av (Cd x0.fFl) (by decide)), ⟨(Av (Eb x0.fQ) (by decide)), trivial⟩⟩⟩), ⟨(Em ⟨_, rfl, rfl⟩ ⟨trivial, ⟨trivial, ⟨trivial, ⟨trivial, ⟨trivial, ⟨trivial, ⟨(Bq ⟨_, _, rfl, rfl⟩), ⟨trivial, ⟨trivial, ⟨trivial, ⟨trivial, ⟨trivial, ⟨trivial, ⟨(Bq ⟨_, _, rfl, rfl⟩), ⟨trivial, ⟨trivial, ⟨trivial, ⟨trivial, ⟨trivial, ⟨(Bq ⟨_, _, rfl, rfl⟩), ⟨trivial, ⟨trivial, ⟨(Bq ⟨_, _, rfl, rfl⟩), ⟨(Bq ⟨_, _, rfl, rfl⟩), ⟨(Bq ⟨_, _, rfl, rfl⟩), trivial⟩⟩⟩⟩⟩⟩⟩⟩⟩⟩⟩⟩⟩⟩⟩⟩⟩⟩⟩⟩⟩⟩⟩⟩⟩), ⟨trivial, trivial⟩⟩⟩) ?_
      have e : F5 x0 kd d = ((⟨x0.fLast, x0.fFl, x0.fQ⟩ : Ci), Gx, false) := by
       clear s0 s2 s4 s6 s9 s11 s12 s107 s108
       try simp only [decide_eq_true_eq, decide_eq_false_iff_not] at h13 h14 h18 h64 h90
       rw [← D3]; unfold Hf
       (repeat' split) <;> first | rfl | (exfalso; omega) | (simp_all; done) | (simp_all; omega)
      rw [e]
      first | done | rfl
 ·refine El (nT h13) ?_
  refine El (nT h13) ?_
  refine Ld (nT h13) ?_
  refine C9 rfl ?_
  refine Ao s12 (.here) rfl ?_
  refine E5 (cs := [.sc (.int .i64 0), .sc (.bool false), .sc (.int .i64 0), .sc (.bool false), .sc (.int .i64 0), .sc (.string (⟨#[]⟩)), .nl, .sc (.string (⟨#[]⟩)), .sc (.int .i64 0), .sc (.bool false), .sc (.int .i64 0), .sc (.bool false), .sc (.string (⟨#[]⟩)), .nl, .sc (.int .i64 0), .sc (.bool false), .sc (.bool false), .sc (.string (⟨#[]⟩)), .sc (.bool false), .nl, .sc (.int .i64 0), .sc (.bool false), .nl, .nl, .nl]) rfl ?_
  refine A5 (cs' := [.sc (.int .i64 x0.fLast), x7, x8]) s12 I6 (Ai (Aa rfl (Aa lx7 (Aa lx8 rfl)))) rfl (A3 rfl) rfl fun H s109 => ?_
  refine A5 (cs' := [.sc (.int .i64 0), .sc (.bool false), .sc (.int .i64 0), .sc (.bool false), .sc (.int .i64 0), .sc (.string (⟨#[]⟩)), .nl, .sc (.string (⟨#[]⟩)), .sc (.int .i64 0), .sc (.bool false), .sc (.int .i64 0), .sc (.bool false), .sc (.string (⟨#[]⟩)), .nl, .sc (.int .i64 0), .sc (.bool false), .sc (.bool false), .sc (.string (⟨#[]⟩)), .sc (.bool false), .nl, .sc (.int .i64 0), .sc (.bool false), .nl, .nl, .nl]) s109 I6 (Ai (Aa rfl (Aa rfl (Aa rfl (Aa rfl (Aa rfl (Aa rfl (Aa rfl (Aa rfl (Aa rfl (Aa rfl (Aa rfl (Aa rfl (Aa rfl (Aa rfl (Aa rfl (Aa rfl (Aa rfl (Aa rfl (Aa rfl (Aa rfl (Aa rfl (Aa rfl (Aa rfl (Aa rfl (Aa rfl rfl)))))))))))))))))))))))))) rfl (A3 rfl) rfl fun H s110 => ?_
  refine Ao s110 Do rfl ?_
  refine Ao s110 (.here) rfl ?_
  refine Ec (Dm s110 rfl (.agg ⟨_, rfl, rfl⟩ (.sc (.own I6 (.own Mn .nil))) (.agg ⟨_, rfl, rfl⟩ (.sc (.sc (.sc (.sc (.sc (.sc (.nl (.sc (.sc (.sc (.sc (.sc (.sc (.nl (.sc (.sc (.sc (.sc (.sc (.nl (.sc (.sc (.nl (.nl (.nl .nil))))))))))))))))))))))))) (.sc .nil))) ⟨(Em ⟨_, rfl, rfl⟩ ⟨trivial, ⟨(Av (Cd x0.fFl) (by decide)), ⟨(Av (Eb x0.fQ) (by decide)), trivial⟩⟩⟩), ⟨(Em ⟨_, rfl, rfl⟩ ⟨trivial, ⟨trivial, ⟨trivial, ⟨trivial, ⟨trivial, ⟨trivial, ⟨(Bq ⟨_, _, rfl, rfl⟩), ⟨trivial, ⟨trivial, ⟨trivial, ⟨trivial, ⟨trivial, ⟨trivial, ⟨(Bq ⟨_, _, rfl, rfl⟩), ⟨trivial, ⟨trivial, ⟨trivial, ⟨trivial, ⟨trivial, ⟨(Bq ⟨_, _, rfl, rfl⟩), ⟨trivial, ⟨trivial, ⟨(Bq ⟨_, _, rfl, rfl⟩), ⟨(Bq ⟨_, _, rfl, rfl⟩), ⟨(Bq ⟨_, _, rfl, rfl⟩), trivial⟩⟩⟩⟩⟩⟩⟩⟩⟩⟩⟩⟩⟩⟩⟩⟩⟩⟩⟩⟩⟩⟩⟩⟩⟩), ⟨trivial, trivial⟩⟩⟩) ?_
  have e : F5 x0 kd d = ((⟨x0.fLast, x0.fFl, x0.fQ⟩ : Ci), Gx, false) := by
   clear s0 s2 s4 s6 s9 s11 s12 s109 s110
   try simp only [decide_eq_true_eq, decide_eq_false_iff_not] at h13
   rw [← D3]; unfold Hf
   (repeat' split) <;> first | rfl | (exfalso; omega) | (simp_all; done) | (simp_all; omega)
  rw [e]
  first | done | rfl
theorem Vf {α : Type} {wt : α → Nat} : ∀ (pre r : List α) (x : α), Mm wt (pre ++ x :: r) = Mm wt (pre ++ r) + (1 + wt x)
 | [], r, x => by
  show 1 + wt x + Mm wt r = Mm wt r + (1 + wt x)
  omega
 | y :: pre, r, x => by
  show 1 + wt y + Mm wt (pre ++ x :: r) = 1 + wt y + Mm wt (pre ++ r) + (1 + wt x)
  rw [Vf pre r x]
  omega
theorem Adc (o : Ci) (kd id : Int) (b : Ev o ≤ 1048576) : Ev (F5 o kd id).1 ≤ 1048576 := by
 rw [← D3]
 unfold Hf
 have e0 : ∀ l : List Af, Ev { o with fFl := l } = Mm B9 l + (Mm Eu o.fQ + 0) := fun l => rfl
 have e1 : Ev o = Mm B9 o.fFl + (Mm Eu o.fQ + 0) := rfl
 split
 ·split
  ·exact b
  ·split
   ·rename_i f hf
    obtain ⟨pre, r, h1, h2⟩ : ∃ pre r, o.fFl = pre ++ f :: r ∧ pre.length = (Cl (fun y : Af => y.fId == id) o.fFl 0).toNat := by
     have hlt := (List.getElem?_eq_some_iff.1 hf).1
     refine ⟨o.fFl.take (Cl (fun y : Af => y.fId == id) o.fFl 0).toNat, o.fFl.drop ((Cl (fun y : Af => y.fId == id) o.fFl 0).toNat + 1), ?_, by simp; omega⟩
     rw [← (List.getElem?_eq_some_iff.1 hf).2, List.getElem_cons_drop, List.take_append_drop]
    rw [← h2]
    have g := Vf (wt := B9) pre r f
    rw [h1] at e1
    split
    ·rw [e0, h1, show (pre ++ f :: r).take pre.length = pre by simp, show (pre ++ f :: r).drop (pre.length + 1) = r by simp]
     omega
    ·split
     ·rw [e0, h1, show (pre ++ f :: r).set pre.length { f with fSt := 3 } = pre ++ { f with fSt := 3 } :: r by simp]
      have g2 := Vf (wt := B9) pre r { f with fSt := 3 }
      have g3 : B9 { f with fSt := 3 } = B9 f := rfl
      omega
     ·exact b
   ·exact b
 ·exact b
def Bc (o : Ci) (kd id : Int) : Ci := (F5 o kd id).1
def Bi (o : Ci) (kd id : Int) : Ay := (F5 o kd id).2.1
def Xe (o : Ci) (kd id : Int) : Bool := (F5 o kd id).2.2
theorem Va (n : Nat) (hn : 1048576 < n) (x0 : Ci) (x1 x2 : Int) (k0 : Wm x0) (k1 : okI x1) (k2 : okI x2) (b0 : Ev x0 ≤ 1048576) : Bt E0 (n + 13) 37 13 [.agg (Ar x0), .sc (.int .i64 x1), .sc (.int .i64 x2)] = some (.tup [.agg (Ar (Bc x0 x1 x2)), .agg (Aq (Bi x0 x1 x2)), .sc (.bool (Xe x0 x1 x2))]) := Afy n hn x0 x1 x2 b0
theorem N8 (n : Nat) (hn : 1048576 < n) (x0 : Ci) (x1 x2 : Int) (k0 : Wm x0) (k1 : okI x1) (k2 : okI x2) (b0 : Ev x0 ≤ 1048576) : Bt E0 (n + 13) 37 15 [.agg (Ar x0), .sc (.int .i64 x1), .sc (.int .i64 x2)] = some (.tup [.agg (Ar (Bc x0 x1 x2)), .agg (Aq (Bi x0 x1 x2)), .sc (.bool (Xe x0 x1 x2))]) := AeI n hn x0 x1 x2 b0
theorem AfL (o : Ci) (kd id : Int) : Ee (Bi o kd id) = 0 := by
 unfold Bi
 rw [← D3]
 unfold Hf
 have h0 : Ee Gx = 0 := rfl
 (repeat' split) <;> first | exact h0 | exact AjW 6 id
theorem S7 (x0 : Ci) (x1 x2 : Int) (b0 : Ev x0 ≤ 1048576) : Ev (Bc x0 x1 x2) ≤ 1048576 ∧ Afx (Bc x0 x1 x2) := ⟨Adc x0 x1 x2 b0, Zt _ (Adc x0 x1 x2 b0)⟩
theorem S8 (x0 : Ci) (x1 x2 : Int) (b0 : Ev x0 ≤ 1048576) : Ee (Bi x0 x1 x2) ≤ 1048576 ∧ Sq (Bi x0 x1 x2) := by
 have h : Ee (Bi x0 x1 x2) ≤ 1048576 := by rw [AfL]; exact Nat.zero_le _
 exact ⟨h, AcL _ h⟩
end
section
open Go
theorem AtL.split {H : Ab} {ys : List AV} {N : Nat} {ts us : List Nat} {cs ds : List AV} (h : AtL H ys N (ts ++ us) (cs ++ ds)) (hl : ts.length = cs.length) : ∃ y1 y2, ys = y1 ++ y2 ∧ AtL H y1 N ts cs ∧ AtL H y2 (N + Cy cs) us ds := by
 obtain ⟨h1, h2, h3⟩ := h
 have e := Fm (ti := Ag) (tp := E0.tp) ts cs us ds N hl
 rw [C6] at e
 rw [e] at h1 h3
 rw [Fp] at h2
 have h4 := h3.right
 rw [C6] at h4
 exact ⟨_, _, h1, ⟨rfl, by omega, h3.left⟩, ⟨rfl, by omega, h4⟩⟩
theorem AtL.own {d : Nat} {H : Ab} {ys : List AV} {N : Nat} {ts : List Nat} {cs : List AV} (h : AtL H ys N ts cs) (hok : Ed (F7 Ag E0.tp d) ts cs) : OwnC d H ts ys cs (List.range' N (Cy cs)) := by
 have := Mi (fun ty t N h h' _ => Iw d ty t N h h') ts cs N hok h.2.2 (Fn _ _ _)
 rw [C6, ← h.1] at this
 exact this
theorem AeW {H : Ab} {i : Nat} {b : Fz} : Vl H (H.set i b) i 1 := ⟨by rw [List.length_set]; exact Nat.le_refl _, fun j b hj hd => by rw [List.getElem?_set_ne (by omega)]; exact hj⟩
theorem J3 {β : Type} {r : Option β} {H : Ab} {w i : Nat} {z ys : List AV} {K : Ab → Option β} (hz : H[i]? = some ⟨z, true, true⟩) (hw : z.length = w) (hy : ys.length = w) (hl : ys.all A4 = true) (h : ∀ H', H'[i]? = some ⟨ys, true, true⟩ → Vl H H' i 1 → K H' = r) : C2 w (.ptr i 0) (.agg ys) H (fun H => K H) = r := by
 have hc : Bz (.agg ys) = some ys := by
  show (if ys.all A4 then some ys else none) = _
  rw [if_pos hl]
 rw [He w i 0 _ ⟨z, true, true⟩ ys _ _ hz hc hy (by simp only [Nat.zero_add, hw]; exact Nat.le_refl _) rfl]
 have hs : Ch z 0 ys = ys := by
  unfold Ch
  rw [List.take_zero, List.nil_append, List.drop_of_length_le (by rw [hw, hy]; omega), List.append_nil]
 simp only [hs]
 exact h _ (by rw [List.getElem?_set_self (List.getElem?_eq_some_iff.1 hz).1]) AeW
end
end Go.Proofs.YtjiahcekpohehaaGreatDoor.Abs
namespace Go.Proofs.YtjiahcekpohehaaGreatDoor.Abs
open Go
set_option linter.unusedVariables false
set_option linter.unusedSimpArgs false
theorem Zb (n : Nat) (hn : 1048576 < n) (x0 : Ci) (x1 : Int) (x2 : Int) (k0 : Wm x0) (k1 : okI x1) (k2 : okI x2) : Bt E0 (n + 30) 4 3 [.agg (Ar x0), .sc (.int .i64 x1), .sc (.int .i64 x2)] = some (.sc (.bool true)) := by
 rw [Ax, Akf, f3]
 simp only [B6, Cp, Bb, Bo, Bg, Cx, D7, A9, Cs, Z9, Br, B4]
 refine L0 (Fq x0) fun i2 i2E B1 => ?_
 refine Fh B1 (Fa x0) ?_
 refine AkB rfl (A8 (E2 _ (Fq x0)) (A8 (Cr _ _) Dc)) (AhE (n + 24) (by omega) _ x0 k0 _ (by omega) (by omega)) (by omega) rfl fun b0 => ?_
 have c4 := Aag (x0)
 have s3w : Ev x0 ≤ 1048576 := by omega
 have s3 := Zt x0 s3w
 have c5 := Aag (Bc x0 x1 x2)
 obtain ⟨s6w, s6⟩ := S7 x0 x1 x2 (by omega)
 have c7 := Xv (Bi x0 x1 x2)
 obtain ⟨s8w, s8⟩ := S8 x0 x1 x2 (by omega)
 refine Fh B1 (Fa x0) ?_
 refine Uw rfl (A8 (E2 _ (Fq x0)) Dc) (Qu (n + 24) (by omega) x0 (by omega)) Oz fun y12 X10 N9 n11 a13 => ?_
 have o14 : i2 < N9 := by have := (List.getElem?_eq_some_iff.1 B1).1; omega
 replace B1 := Bd B1 X10
 refine Zg rfl (A8 (a13.vw (Hb 4 (x0))) (A8 (Cr _ _) (A8 (Cr _ _) Dc))) (Va (n + 16) (by omega) x0 x1 x2 k0 k1 k2 (by omega)) rfl fun ys18 X16 N15 n17 a19 => ?_
 have o20 : i2 < N15 := by have := (List.getElem?_eq_some_iff.1 B1).1; omega
 replace B1 := Bd B1 X16
 obtain ⟨y21, ys22, rfl, a23, a24⟩ := a19.cons
 have nb25 : G5 (.agg (Ar (Bc x0 x1 x2))) = Cy (Ar (Bc x0 x1 x2)) := rfl
 obtain ⟨y26, ys27, rfl, a28, a29⟩ := a24.cons
 have nb30 : G5 (.agg (Aq (Bi x0 x1 x2))) = Cy (Aq (Bi x0 x1 x2)) := rfl
 obtain ⟨y31, ys32, rfl, a33, a34⟩ := a29.cons
 obtain rfl := a34.nil
 refine Oe rfl ?_
 obtain ⟨ys35, rfl, a36⟩ := a23.agg Oz
 refine Oe rfl ?_
 obtain ⟨ys37, rfl, a38⟩ := a28.agg Sz
 refine Oe rfl ?_
 obtain rfl := a33.sc
 refine T7 fun i40 i40E B39 => ?_
 have o41 : i2 < i40 := by have := (List.getElem?_eq_some_iff.1 B1).1; omega
 have o42 : N15 + Cy (Ar (Bc x0 x1 x2)) ≤ i40 := by have := a36.2.1; omega
 have o43 : (N15 + G5 (.agg (Ar (Bc x0 x1 x2)))) + Cy (Aq (Bi x0 x1 x2)) ≤ i40 := by have := a38.2.1; omega
 replace B1 := Bd B1 [⟨[(.sc (.int .i64 0)), .nl, .nl], true, true⟩]
 replace a36 := a36.grow [⟨[(.sc (.int .i64 0)), .nl, .nl], true, true⟩]
 replace a38 := a38.grow [⟨[(.sc (.int .i64 0)), .nl, .nl], true, true⟩]
 refine T7 fun i45 i45E B44 => ?_
 have o46 : i2 < i45 := by have := (List.getElem?_eq_some_iff.1 B1).1; omega
 have o47 : N15 + Cy (Ar (Bc x0 x1 x2)) ≤ i45 := by have := a36.2.1; omega
 have o48 : (N15 + G5 (.agg (Ar (Bc x0 x1 x2)))) + Cy (Aq (Bi x0 x1 x2)) ≤ i45 := by have := a38.2.1; omega
 have o49 : i40 < i45 := by have := (List.getElem?_eq_some_iff.1 B39).1; omega
 replace B1 := Bd B1 [⟨[(.sc (.int .i64 0)), (.sc (.bool false)), (.sc (.int .i64 0)), (.sc (.bool false)), (.sc (.int .i64 0)), (.sc (.string ⟨#[]⟩)), .nl, (.sc (.string ⟨#[]⟩)), (.sc (.int .i64 0)), (.sc (.bool false)), (.sc (.int .i64 0)), (.sc (.bool false)), (.sc (.string ⟨#[]⟩)), .nl, (.sc (.int .i64 0)), (.sc (.bool false)), (.sc (.bool false)), (.sc (.string ⟨#[]⟩)), (.sc (.bool false)), .nl, (.sc (.int .i64 0)), (.sc (.bool false)), .nl, .nl, .nl], true, true⟩]
 replace a36 := a36.grow [⟨[(.sc (.int .i64 0)), (.sc (.bool false)), (.sc (.int .i64 0)), (.sc (.bool false)), (.sc (.int .i64 0)), (.sc (.string ⟨#[]⟩)), .nl, (.sc (.string ⟨#[]⟩)), (.sc (.int .i64 0)), (.sc (.bool false)), (.sc (.int .i64 0)), (.sc (.bool false)), (.sc (.string ⟨#[]⟩)), .nl, (.sc (.int .i64 0)), (.sc (.bool false)), (.sc (.bool false)), (.sc (.string ⟨#[]⟩)), (.sc (.bool false)), .nl, (.sc (.int .i64 0)), (.sc (.bool false)), .nl, .nl, .nl], true, true⟩]
 replace a38 := a38.grow [⟨[(.sc (.int .i64 0)), (.sc (.bool false)), (.sc (.int .i64 0)), (.sc (.bool false)), (.sc (.int .i64 0)), (.sc (.string ⟨#[]⟩)), .nl, (.sc (.string ⟨#[]⟩)), (.sc (.int .i64 0)), (.sc (.bool false)), (.sc (.int .i64 0)), (.sc (.bool false)), (.sc (.string ⟨#[]⟩)), .nl, (.sc (.int .i64 0)), (.sc (.bool false)), (.sc (.bool false)), (.sc (.string ⟨#[]⟩)), (.sc (.bool false)), .nl, (.sc (.int .i64 0)), (.sc (.bool false)), .nl, .nl, .nl], true, true⟩]
 replace B39 := Bd B39 [⟨[(.sc (.int .i64 0)), (.sc (.bool false)), (.sc (.int .i64 0)), (.sc (.bool false)), (.sc (.int .i64 0)), (.sc (.string ⟨#[]⟩)), .nl, (.sc (.string ⟨#[]⟩)), (.sc (.int .i64 0)), (.sc (.bool false)), (.sc (.int .i64 0)), (.sc (.bool false)), (.sc (.string ⟨#[]⟩)), .nl, (.sc (.int .i64 0)), (.sc (.bool false)), (.sc (.bool false)), (.sc (.string ⟨#[]⟩)), (.sc (.bool false)), .nl, (.sc (.int .i64 0)), (.sc (.bool false)), .nl, .nl, .nl], true, true⟩]
 refine J3 B39 rfl (a36.len.trans (Fa _)) (a36.leaf (Fq _)) fun G50 B52 q51 => ?_
 replace B1 := Bs B1 q51 (by omega)
 replace a36 := a36.kept q51 (by omega)
 replace a38 := a38.kept q51 (by omega)
 replace B44 := Bs B44 q51 (by omega)
 refine J3 B44 rfl (a38.len.trans (E7 _)) (a38.leaf (D0 _)) fun G53 B55 q54 => ?_
 replace B1 := Bs B1 q54 (by omega)
 replace a36 := a36.kept q54 (by omega)
 replace a38 := a38.kept q54 (by omega)
 replace B52 := Bs B52 q54 (by omega)
 refine Fh B1 (Fa x0) ?_
 refine Uw rfl (A8 (E2 _ (Fq x0)) Dc) (Qu (n + 24) (by omega) x0 (by omega)) Oz fun y59 X57 N56 n58 a60 => ?_
 have o61 : i2 < N56 := by have := (List.getElem?_eq_some_iff.1 B1).1; omega
 have o62 : N15 + Cy (Ar (Bc x0 x1 x2)) ≤ N56 := by have := a36.2.1; omega
 have o63 : (N15 + G5 (.agg (Ar (Bc x0 x1 x2)))) + Cy (Aq (Bi x0 x1 x2)) ≤ N56 := by have := a38.2.1; omega
 have o64 : i40 < N56 := by have := (List.getElem?_eq_some_iff.1 B52).1; omega
 have o65 : i45 < N56 := by have := (List.getElem?_eq_some_iff.1 B55).1; omega
 replace B1 := Bd B1 X57
 replace a36 := a36.grow X57
 replace a38 := a38.grow X57
 replace B52 := Bd B52 X57
 replace B55 := Bd B55 X57
 refine AjA rfl (a60.len.trans (Fa _)) (a60.leaf (Fq _)) fun i67 i67E B66 => ?_
 have o68 : i2 < i67 := by have := (List.getElem?_eq_some_iff.1 B1).1; omega
 have o69 : N15 + Cy (Ar (Bc x0 x1 x2)) ≤ i67 := by have := a36.2.1; omega
 have o70 : (N15 + G5 (.agg (Ar (Bc x0 x1 x2)))) + Cy (Aq (Bi x0 x1 x2)) ≤ i67 := by have := a38.2.1; omega
 have o71 : i40 < i67 := by have := (List.getElem?_eq_some_iff.1 B52).1; omega
 have o72 : i45 < i67 := by have := (List.getElem?_eq_some_iff.1 B55).1; omega
 have o73 : N56 + Cy (Ar (x0)) ≤ i67 := by have := a60.2.1; omega
 replace B1 := Bd B1 [⟨y59, true, true⟩]
 replace a36 := a36.grow [⟨y59, true, true⟩]
 replace a38 := a38.grow [⟨y59, true, true⟩]
 replace B52 := Bd B52 [⟨y59, true, true⟩]
 replace B55 := Bd B55 [⟨y59, true, true⟩]
 replace a60 := a60.grow [⟨y59, true, true⟩]
 refine Fh B66 (a60.len.trans (Fa _)) ?_
 refine Zg rfl (A8 (a60.vw (Hb 4 (x0))) (A8 (Cr _ _) (A8 (Cr _ _) Dc))) (N8 (n + 16) (by omega) x0 x1 x2 k0 k1 k2 (by omega)) rfl fun ys77 X75 N74 n76 a78 => ?_
 have o79 : i2 < N74 := by have := (List.getElem?_eq_some_iff.1 B1).1; omega
 have o80 : N15 + Cy (Ar (Bc x0 x1 x2)) ≤ N74 := by have := a36.2.1; omega
 have o81 : (N15 + G5 (.agg (Ar (Bc x0 x1 x2)))) + Cy (Aq (Bi x0 x1 x2)) ≤ N74 := by have := a38.2.1; omega
 have o82 : i40 < N74 := by have := (List.getElem?_eq_some_iff.1 B52).1; omega
 have o83 : i45 < N74 := by have := (List.getElem?_eq_some_iff.1 B55).1; omega
 have o84 : N56 + Cy (Ar (x0)) ≤ N74 := by have := a60.2.1; omega
 have o85 : i67 < N74 := by have := (List.getElem?_eq_some_iff.1 B66).1; omega
 replace B1 := Bd B1 X75
 replace a36 := a36.grow X75
 replace a38 := a38.grow X75
 replace B52 := Bd B52 X75
 replace B55 := Bd B55 X75
 replace a60 := a60.grow X75
 replace B66 := Bd B66 X75
 obtain ⟨y86, ys87, rfl, a88, a89⟩ := a78.cons
 have nb90 : G5 (.agg (Ar (Bc x0 x1 x2))) = Cy (Ar (Bc x0 x1 x2)) := rfl
 obtain ⟨y91, ys92, rfl, a93, a94⟩ := a89.cons
 have nb95 : G5 (.agg (Aq (Bi x0 x1 x2))) = Cy (Aq (Bi x0 x1 x2)) := rfl
 obtain ⟨y96, ys97, rfl, a98, a99⟩ := a94.cons
 obtain rfl := a99.nil
 refine Oe rfl ?_
 obtain ⟨ys100, rfl, a101⟩ := a88.agg Oz
 refine Oe rfl ?_
 obtain ⟨ys102, rfl, a103⟩ := a93.agg Sz
 refine Oe rfl ?_
 obtain rfl := a98.sc
 refine T7 fun i105 i105E B104 => ?_
 have Ahs : i2 < i105 := by have := (List.getElem?_eq_some_iff.1 B1).1; omega
 have Aht : N15 + Cy (Ar (Bc x0 x1 x2)) ≤ i105 := by have := a36.2.1; omega
 have o108 : (N15 + G5 (.agg (Ar (Bc x0 x1 x2)))) + Cy (Aq (Bi x0 x1 x2)) ≤ i105 := by have := a38.2.1; omega
 have o109 : i40 < i105 := by have := (List.getElem?_eq_some_iff.1 B52).1; omega
 have o110 : i45 < i105 := by have := (List.getElem?_eq_some_iff.1 B55).1; omega
 have o111 : N56 + Cy (Ar (x0)) ≤ i105 := by have := a60.2.1; omega
 have o112 : i67 < i105 := by have := (List.getElem?_eq_some_iff.1 B66).1; omega
 have o113 : N74 + Cy (Ar (Bc x0 x1 x2)) ≤ i105 := by have := a101.2.1; omega
 have o114 : (N74 + G5 (.agg (Ar (Bc x0 x1 x2)))) + Cy (Aq (Bi x0 x1 x2)) ≤ i105 := by have := a103.2.1; omega
 replace B1 := Bd B1 [⟨[(.sc (.int .i64 0)), .nl, .nl], true, true⟩]
 replace a36 := a36.grow [⟨[(.sc (.int .i64 0)), .nl, .nl], true, true⟩]
 replace a38 := a38.grow [⟨[(.sc (.int .i64 0)), .nl, .nl], true, true⟩]
 replace B52 := Bd B52 [⟨[(.sc (.int .i64 0)), .nl, .nl], true, true⟩]
 replace B55 := Bd B55 [⟨[(.sc (.int .i64 0)), .nl, .nl], true, true⟩]
 replace a60 := a60.grow [⟨[(.sc (.int .i64 0)), .nl, .nl], true, true⟩]
 replace B66 := Bd B66 [⟨[(.sc (.int .i64 0)), .nl, .nl], true, true⟩]
 replace a101 := a101.grow [⟨[(.sc (.int .i64 0)), .nl, .nl], true, true⟩]
 replace a103 := a103.grow [⟨[(.sc (.int .i64 0)), .nl, .nl], true, true⟩]
 refine T7 fun i116 i116E B115 => ?_
 have o117 : i2 < i116 := by have := (List.getElem?_eq_some_iff.1 B1).1; omega
 have o118 : N15 + Cy (Ar (Bc x0 x1 x2)) ≤ i116 := by have := a36.2.1; omega
 have o119 : (N15 + G5 (.agg (Ar (Bc x0 x1 x2)))) + Cy (Aq (Bi x0 x1 x2)) ≤ i116 := by have := a38.2.1; omega
 have o120 : i40 < i116 := by have := (List.getElem?_eq_some_iff.1 B52).1; omega
 have o121 : i45 < i116 := by have := (List.getElem?_eq_some_iff.1 B55).1; omega
 have o122 : N56 + Cy (Ar (x0)) ≤ i116 := by have := a60.2.1; omega
 have o123 : i67 < i116 := by have := (List.getElem?_eq_some_iff.1 B66).1; omega
 have Oi : N74 + Cy (Ar (Bc x0 x1 x2)) ≤ i116 := by have := a101.2.1; omega
 have o125 : (N74 + G5 (.agg (Ar (Bc x0 x1 x2)))) + Cy (Aq (Bi x0 x1 x2)) ≤ i116 := by have := a103.2.1; omega
 have o126 : i105 < i116 := by have := (List.getElem?_eq_some_iff.1 B104).1; omega
 replace B1 := Bd B1 [⟨[(.sc (.int .i64 0)), (.sc (.bool false)), (.sc (.int .i64 0)), (.sc (.bool false)), (.sc (.int .i64 0)), (.sc (.string ⟨#[]⟩)), .nl, (.sc (.string ⟨#[]⟩)), (.sc (.int .i64 0)), (.sc (.bool false)), (.sc (.int .i64 0)), (.sc (.bool false)), (.sc (.string ⟨#[]⟩)), .nl, (.sc (.int .i64 0)), (.sc (.bool false)), (.sc (.bool false)), (.sc (.string ⟨#[]⟩)), (.sc (.bool false)), .nl, (.sc (.int .i64 0)), (.sc (.bool false)), .nl, .nl, .nl], true, true⟩]
 replace a36 := a36.grow [⟨[(.sc (.int .i64 0)), (.sc (.bool false)), (.sc (.int .i64 0)), (.sc (.bool false)), (.sc (.int .i64 0)), (.sc (.string ⟨#[]⟩)), .nl, (.sc (.string ⟨#[]⟩)), (.sc (.int .i64 0)), (.sc (.bool false)), (.sc (.int .i64 0)), (.sc (.bool false)), (.sc (.string ⟨#[]⟩)), .nl, (.sc (.int .i64 0)), (.sc (.bool false)), (.sc (.bool false)), (.sc (.string ⟨#[]⟩)), (.sc (.bool false)), .nl, (.sc (.int .i64 0)), (.sc (.bool false)), .nl, .nl, .nl], true, true⟩]
 replace a38 := a38.grow [⟨[(.sc (.int .i64 0)), (.sc (.bool false)), (.sc (.int .i64 0)), (.sc (.bool false)), (.sc (.int .i64 0)), (.sc (.string ⟨#[]⟩)), .nl, (.sc (.string ⟨#[]⟩)), (.sc (.int .i64 0)), (.sc (.bool false)), (.sc (.int .i64 0)), (.sc (.bool false)), (.sc (.string ⟨#[]⟩)), .nl, (.sc (.int .i64 0)), (.sc (.bool false)), (.sc (.bool false)), (.sc (.string ⟨#[]⟩)), (.sc (.bool false)), .nl, (.sc (.int .i64 0)), (.sc (.bool false)), .nl, .nl, .nl], true, true⟩]
 replace B52 := Bd B52 [⟨[(.sc (.int .i64 0)), (.sc (.bool false)), (.sc (.int .i64 0)), (.sc (.bool false)), (.sc (.int .i64 0)), (.sc (.string ⟨#[]⟩)), .nl, (.sc (.string ⟨#[]⟩)), (.sc (.int .i64 0)), (.sc (.bool false)), (.sc (.int .i64 0)), (.sc (.bool false)), (.sc (.string ⟨#[]⟩)), .nl, (.sc (.int .i64 0)), (.sc (.bool false)), (.sc (.bool false)), (.sc (.string ⟨#[]⟩)), (.sc (.bool false)), .nl, (.sc (.int .i64 0)), (.sc (.bool false)), .nl, .nl, .nl], true, true⟩]
 replace B55 := Bd B55 [⟨[(.sc (.int .i64 0)), (.sc (.bool false)), (.sc (.int .i64 0)), (.sc (.bool false)), (.sc (.int .i64 0)), (.sc (.string ⟨#[]⟩)), .nl, (.sc (.string ⟨#[]⟩)), (.sc (.int .i64 0)), (.sc (.bool false)), (.sc (.int .i64 0)), (.sc (.bool false)), (.sc (.string ⟨#[]⟩)), .nl, (.sc (.int .i64 0)), (.sc (.bool false)), (.sc (.bool false)), (.sc (.string ⟨#[]⟩)), (.sc (.bool false)), .nl, (.sc (.int .i64 0)), (.sc (.bool false)), .nl, .nl, .nl], true, true⟩]
 replace a60 := a60.grow [⟨[(.sc (.int .i64 0)), (.sc (.bool false)), (.sc (.int .i64 0)), (.sc (.bool false)), (.sc (.int .i64 0)), (.sc (.string ⟨#[]⟩)), .nl, (.sc (.string ⟨#[]⟩)), (.sc (.int .i64 0)), (.sc (.bool false)), (.sc (.int .i64 0)), (.sc (.bool false)), (.sc (.string ⟨#[]⟩)), .nl, (.sc (.int .i64 0)), (.sc (.bool false)), (.sc (.bool false)), (.sc (.string ⟨#[]⟩)), (.sc (.bool false)), .nl, (.sc (.int .i64 0)), (.sc (.bool false)), .nl, .nl, .nl], true, true⟩]
 replace B66 := Bd B66 [⟨[(.sc (.int .i64 0)), (.sc (.bool false)), (.sc (.int .i64 0)), (.sc (.bool false)), (.sc (.int .i64 0)), (.sc (.string ⟨#[]⟩)), .nl, (.sc (.string ⟨#[]⟩)), (.sc (.int .i64 0)), (.sc (.bool false)), (.sc (.int .i64 0)), (.sc (.bool false)), (.sc (.string ⟨#[]⟩)), .nl, (.sc (.int .i64 0)), (.sc (.bool false)), (.sc (.bool false)), (.sc (.string ⟨#[]⟩)), (.sc (.bool false)), .nl, (.sc (.int .i64 0)), (.sc (.bool false)), .nl, .nl, .nl], true, true⟩]
 replace a101 := a101.grow [⟨[(.sc (.int .i64 0)), (.sc (.bool false)), (.sc (.int .i64 0)), (.sc (.bool false)), (.sc (.int .i64 0)), (.sc (.string ⟨#[]⟩)), .nl, (.sc (.string ⟨#[]⟩)), (.sc (.int .i64 0)), (.sc (.bool false)), (.sc (.int .i64 0)), (.sc (.bool false)), (.sc (.string ⟨#[]⟩)), .nl, (.sc (.int .i64 0)), (.sc (.bool false)), (.sc (.bool false)), (.sc (.string ⟨#[]⟩)), (.sc (.bool false)), .nl, (.sc (.int .i64 0)), (.sc (.bool false)), .nl, .nl, .nl], true, true⟩]
 replace a103 := a103.grow [⟨[(.sc (.int .i64 0)), (.sc (.bool false)), (.sc (.int .i64 0)), (.sc (.bool false)), (.sc (.int .i64 0)), (.sc (.string ⟨#[]⟩)), .nl, (.sc (.string ⟨#[]⟩)), (.sc (.int .i64 0)), (.sc (.bool false)), (.sc (.int .i64 0)), (.sc (.bool false)), (.sc (.string ⟨#[]⟩)), .nl, (.sc (.int .i64 0)), (.sc (.bool false)), (.sc (.bool false)), (.sc (.string ⟨#[]⟩)), (.sc (.bool false)), .nl, (.sc (.int .i64 0)), (.sc (.bool false)), .nl, .nl, .nl], true, true⟩]
 replace B104 := Bd B104 [⟨[(.sc (.int .i64 0)), (.sc (.bool false)), (.sc (.int .i64 0)), (.sc (.bool false)), (.sc (.int .i64 0)), (.sc (.string ⟨#[]⟩)), .nl, (.sc (.string ⟨#[]⟩)), (.sc (.int .i64 0)), (.sc (.bool false)), (.sc (.int .i64 0)), (.sc (.bool false)), (.sc (.string ⟨#[]⟩)), .nl, (.sc (.int .i64 0)), (.sc (.bool false)), (.sc (.bool false)), (.sc (.string ⟨#[]⟩)), (.sc (.bool false)), .nl, (.sc (.int .i64 0)), (.sc (.bool false)), .nl, .nl, .nl], true, true⟩]
 refine J3 B104 rfl (a101.len.trans (Fa _)) (a101.leaf (Fq _)) fun G127 B129 q128 => ?_
 replace B1 := Bs B1 q128 (by omega)
 replace a36 := a36.kept q128 (by omega)
 replace a38 := a38.kept q128 (by omega)
 replace B52 := Bs B52 q128 (by omega)
 replace B55 := Bs B55 q128 (by omega)
 replace a60 := a60.kept q128 (by omega)
 replace B66 := Bs B66 q128 (by omega)
 replace a101 := a101.kept q128 (by omega)
 replace a103 := a103.kept q128 (by omega)
 replace B115 := Bs B115 q128 (by omega)
 refine J3 B115 rfl (a103.len.trans (E7 _)) (a103.leaf (D0 _)) fun G130 B132 q131 => ?_
 replace B1 := Bs B1 q131 (by omega)
 replace a36 := a36.kept q131 (by omega)
 replace a38 := a38.kept q131 (by omega)
 replace B52 := Bs B52 q131 (by omega)
 replace B55 := Bs B55 q131 (by omega)
 replace a60 := a60.kept q131 (by omega)
 replace B66 := Bs B66 q131 (by omega)
 replace a101 := a101.kept q131 (by omega)
 replace a103 := a103.kept q131 (by omega)
 replace B129 := Bs B129 q131 (by omega)
 refine Fh B129 (a101.len.trans (Fa _)) ?_
 refine Fh B52 (a36.len.trans (Fa _)) ?_
 refine R4 rfl (A8 (a101.vw (Hb 4 (Bc x0 x1 x2))) (A8 (a36.vw (Hb 4 (Bc x0 x1 x2))) Dc)) (Ql (n + 24) (by omega) _ (Bc x0 x1 x2) s6w) ?_
 refine M2 ?_
 refine Ft ?_
 refine Fh B132 (a103.len.trans (E7 _)) ?_
 refine Ft ?_
 refine Fh B55 (a38.len.trans (E7 _)) ?_
 refine Ft ?_
 refine R4 rfl (A8 (a103.vw (G2 5 (Bi x0 x1 x2))) (A8 (a38.vw (G2 5 (Bi x0 x1 x2))) Dc)) (My (n + 26) (by omega) _ (Bi x0 x1 x2) s8w) ?_
 refine Ft ?_
 refine M2 ?_
 refine R6 ?_
 refine Ft ?_
 refine Ft ?_
 refine Ft ?_
 refine Zf ?_
 refine R6 ?_
 refine Ts ?_
 refine Fh B66 (a60.len.trans (Fa _)) ?_
 refine Fh B1 (Fa x0) ?_
 refine Uw rfl (A8 (E2 _ (Fq x0)) Dc) (Qu (n + 24) (by omega) x0 (by omega)) Oz fun y136 X134 N133 n135 a137 => ?_
 have o138 : i2 < N133 := by have := (List.getElem?_eq_some_iff.1 B1).1; omega
 have o139 : N15 + Cy (Ar (Bc x0 x1 x2)) ≤ N133 := by have := a36.2.1; omega
 have o140 : (N15 + G5 (.agg (Ar (Bc x0 x1 x2)))) + Cy (Aq (Bi x0 x1 x2)) ≤ N133 := by have := a38.2.1; omega
 have Qd : i40 < N133 := by have := (List.getElem?_eq_some_iff.1 B52).1; omega
 have o142 : i45 < N133 := by have := (List.getElem?_eq_some_iff.1 B55).1; omega
 have o143 : N56 + Cy (Ar (x0)) ≤ N133 := by have := a60.2.1; omega
 have o144 : i67 < N133 := by have := (List.getElem?_eq_some_iff.1 B66).1; omega
 have o145 : N74 + Cy (Ar (Bc x0 x1 x2)) ≤ N133 := by have := a101.2.1; omega
 have o146 : (N74 + G5 (.agg (Ar (Bc x0 x1 x2)))) + Cy (Aq (Bi x0 x1 x2)) ≤ N133 := by have := a103.2.1; omega
 have o147 : i105 < N133 := by have := (List.getElem?_eq_some_iff.1 B129).1; omega
 have o148 : i116 < N133 := by have := (List.getElem?_eq_some_iff.1 B132).1; omega
 replace B1 := Bd B1 X134
 replace a36 := a36.grow X134
 replace a38 := a38.grow X134
 replace B52 := Bd B52 X134
 replace B55 := Bd B55 X134
 replace a60 := a60.grow X134
 replace B66 := Bd B66 X134
 replace a101 := a101.grow X134
 replace a103 := a103.grow X134
 replace B129 := Bd B129 X134
 replace B132 := Bd B132 X134
 refine R4 rfl (A8 (a60.vw (Hb 4 (x0))) (A8 (a137.vw (Hb 4 (x0))) Dc)) (Ql (n + 24) (by omega) _ (x0) s3w) ?_
 refine M2 ?_
 refine Ts ?_
 refine Fh B66 (a60.len.trans (Fa _)) ?_
 refine R5 (AaQ (n + 25) (by omega)) rfl a60 (Ve _ s3) (by omega) (by omega) fun G149 a151 q150 => ?_
 replace B1 := Bs B1 q150 (by omega)
 replace a36 := a36.kept q150 (by omega)
 replace a38 := a38.kept q150 (by omega)
 replace B52 := Bs B52 q150 (by omega)
 replace B55 := Bs B55 q150 (by omega)
 replace a101 := a101.kept q150 (by omega)
 replace a103 := a103.kept q150 (by omega)
 replace B129 := Bs B129 q150 (by omega)
 replace B132 := Bs B132 q150 (by omega)
 refine Aj9 (by omega) ?_
 refine Ft ?_
 refine Fh B129 (a101.len.trans (Fa _)) ?_
 refine Ft ?_
 refine Fh B52 (a36.len.trans (Fa _)) ?_
 refine Ft ?_
 refine R4 rfl (A8 (a101.vw (Hb 4 (Bc x0 x1 x2))) (A8 (a36.vw (Hb 4 (Bc x0 x1 x2))) Dc)) (Ql (n + 24) (by omega) _ (Bc x0 x1 x2) s6w) ?_
 refine Ft ?_
 refine M2 ?_
 refine R6 ?_
 refine Ft ?_
 refine Fh B132 (a103.len.trans (E7 _)) ?_
 refine Ft ?_
 refine Fh B55 (a38.len.trans (E7 _)) ?_
 refine Ft ?_
 refine R4 rfl (A8 (a103.vw (G2 5 (Bi x0 x1 x2))) (A8 (a38.vw (G2 5 (Bi x0 x1 x2))) Dc)) (My (n + 26) (by omega) _ (Bi x0 x1 x2) s8w) ?_
 refine Ft ?_
 refine M2 ?_
 refine R6 ?_
 refine Ft ?_
 refine Ft ?_
 refine Ft ?_
 refine Zf ?_
 refine R6 ?_
 refine Ts ?_
 refine Fh B129 (a101.len.trans (Fa _)) ?_
 refine R5 (AaQ (n + 25) (by omega)) rfl a101 (Ve _ s6) (by omega) (by omega) fun G152 a154 q153 => ?_
 replace B1 := Bs B1 q153 (by omega)
 replace a36 := a36.kept q153 (by omega)
 replace a38 := a38.kept q153 (by omega)
 replace B52 := Bs B52 q153 (by omega)
 replace B55 := Bs B55 q153 (by omega)
 replace a103 := a103.kept q153 (by omega)
 replace B129 := Bs B129 q153 (by omega)
 replace B132 := Bs B132 q153 (by omega)
 refine Fh B132 (a103.len.trans (E7 _)) ?_
 refine R5 (Zk (n + 26) (by omega)) rfl a103 (Pu _ s8) (by omega) (by omega) fun G155 a157 q156 => ?_
 replace B1 := Bs B1 q156 (by omega)
 replace a36 := a36.kept q156 (by omega)
 replace a38 := a38.kept q156 (by omega)
 replace B52 := Bs B52 q156 (by omega)
 replace B55 := Bs B55 q156 (by omega)
 replace a154 := a154.kept q156 (by rw [Fo]; omega)
 replace B129 := Bs B129 q156 (by omega)
 replace B132 := Bs B132 q156 (by omega)
 refine Fh B129 (a101.len.trans (Fa _)) ?_
 refine Of (AaJ (n + 25) (by omega)) (a154.vw (Oj _ _ (Hb 4 (Bc x0 x1 x2)))) (Ve _ s6) (by omega) (by omega) ?_
 refine Fh B132 (a103.len.trans (E7 _)) ?_
 refine Of (Rt (n + 26) (by omega)) (a157.vw (Oj _ _ (G2 5 (Bi x0 x1 x2)))) (Pu _ s8) (by omega) (by omega) ?_
 refine Afb ?_
 refine Ts ?_
 refine Fh B1 (Fa x0) ?_
 refine Uw rfl (A8 (E2 _ (Fq x0)) Dc) (Qu (n + 24) (by omega) x0 (by omega)) Oz fun y161 X159 N158 n160 a162 => ?_
 have o163 : N15 + Cy (Ar (Bc x0 x1 x2)) ≤ N158 := by have := a36.2.1; omega
 have o164 : (N15 + G5 (.agg (Ar (Bc x0 x1 x2)))) + Cy (Aq (Bi x0 x1 x2)) ≤ N158 := by have := a38.2.1; omega
 have o165 : i40 < N158 := by have := (List.getElem?_eq_some_iff.1 B52).1; omega
 have o166 : i45 < N158 := by have := (List.getElem?_eq_some_iff.1 B55).1; omega
 have o167 : N74 + Cy (Ar (Bc x0 x1 x2)) ≤ N158 := by have := a154.2.1; rw [Fo] at this; omega
 have o168 : (N74 + G5 (.agg (Ar (Bc x0 x1 x2)))) + Cy (Aq (Bi x0 x1 x2)) ≤ N158 := by have := a157.2.1; rw [Fo] at this; omega
 have o169 : i105 < N158 := by have := (List.getElem?_eq_some_iff.1 B129).1; omega
 have o170 : i116 < N158 := by have := (List.getElem?_eq_some_iff.1 B132).1; omega
 replace a36 := a36.grow X159
 replace a38 := a38.grow X159
 replace B52 := Bd B52 X159
 replace B55 := Bd B55 X159
 replace a154 := a154.grow X159
 replace a157 := a157.grow X159
 replace B129 := Bd B129 X159
 replace B132 := Bd B132 X159
 refine Zg rfl (A8 (a162.vw (Hb 4 (x0))) (A8 (Cr _ _) (A8 (Cr _ _) Dc))) (N8 (n + 16) (by omega) x0 x1 x2 k0 k1 k2 (by omega)) rfl fun ys174 X172 N171 n173 a175 => ?_
 have o176 : N15 + Cy (Ar (Bc x0 x1 x2)) ≤ N171 := by have := a36.2.1; omega
 have o177 : (N15 + G5 (.agg (Ar (Bc x0 x1 x2)))) + Cy (Aq (Bi x0 x1 x2)) ≤ N171 := by have := a38.2.1; omega
 have o178 : i40 < N171 := by have := (List.getElem?_eq_some_iff.1 B52).1; omega
 have o179 : i45 < N171 := by have := (List.getElem?_eq_some_iff.1 B55).1; omega
 have o180 : N74 + Cy (Ar (Bc x0 x1 x2)) ≤ N171 := by have := a154.2.1; rw [Fo] at this; omega
 have o181 : (N74 + G5 (.agg (Ar (Bc x0 x1 x2)))) + Cy (Aq (Bi x0 x1 x2)) ≤ N171 := by have := a157.2.1; rw [Fo] at this; omega
 have o182 : i105 < N171 := by have := (List.getElem?_eq_some_iff.1 B129).1; omega
 have o183 : i116 < N171 := by have := (List.getElem?_eq_some_iff.1 B132).1; omega
 replace a36 := a36.grow X172
 replace a38 := a38.grow X172
 replace B52 := Bd B52 X172
 replace B55 := Bd B55 X172
 replace a154 := a154.grow X172
 replace a157 := a157.grow X172
 replace B129 := Bd B129 X172
 replace B132 := Bd B132 X172
 obtain ⟨y184, ys185, rfl, a186, a187⟩ := a175.cons
 have nb188 : G5 (.agg (Ar (Bc x0 x1 x2))) = Cy (Ar (Bc x0 x1 x2)) := rfl
 obtain ⟨y189, ys190, rfl, a191, a192⟩ := a187.cons
 have nb193 : G5 (.agg (Aq (Bi x0 x1 x2))) = Cy (Aq (Bi x0 x1 x2)) := rfl
 obtain ⟨y194, ys195, rfl, a196, a197⟩ := a192.cons
 obtain rfl := a197.nil
 refine Oe rfl ?_
 obtain ⟨ys198, rfl, a199⟩ := a186.agg Oz
 refine Oe rfl ?_
 obtain ⟨ys200, rfl, a201⟩ := a191.agg Sz
 refine Oe rfl ?_
 obtain rfl := a196.sc
 refine T7 fun i203 i203E B202 => ?_
 have Ahu : N15 + Cy (Ar (Bc x0 x1 x2)) ≤ i203 := by have := a36.2.1; omega
 have Ahv : (N15 + G5 (.agg (Ar (Bc x0 x1 x2)))) + Cy (Aq (Bi x0 x1 x2)) ≤ i203 := by have := a38.2.1; omega
 have o206 : i40 < i203 := by have := (List.getElem?_eq_some_iff.1 B52).1; omega
 have o207 : i45 < i203 := by have := (List.getElem?_eq_some_iff.1 B55).1; omega
 have AkF : N74 + Cy (Ar (Bc x0 x1 x2)) ≤ i203 := by have := a154.2.1; rw [Fo] at this; omega
 have o209 : (N74 + G5 (.agg (Ar (Bc x0 x1 x2)))) + Cy (Aq (Bi x0 x1 x2)) ≤ i203 := by have := a157.2.1; rw [Fo] at this; omega
 have o210 : i105 < i203 := by have := (List.getElem?_eq_some_iff.1 B129).1; omega
 have o211 : i116 < i203 := by have := (List.getElem?_eq_some_iff.1 B132).1; omega
 have o212 : N171 + Cy (Ar (Bc x0 x1 x2)) ≤ i203 := by have := a199.2.1; omega
 have o213 : (N171 + G5 (.agg (Ar (Bc x0 x1 x2)))) + Cy (Aq (Bi x0 x1 x2)) ≤ i203 := by have := a201.2.1; omega
 replace a36 := a36.grow [⟨[(.sc (.int .i64 0)), .nl, .nl], true, true⟩]
 replace a38 := a38.grow [⟨[(.sc (.int .i64 0)), .nl, .nl], true, true⟩]
 replace B52 := Bd B52 [⟨[(.sc (.int .i64 0)), .nl, .nl], true, true⟩]
 replace B55 := Bd B55 [⟨[(.sc (.int .i64 0)), .nl, .nl], true, true⟩]
 replace a154 := a154.grow [⟨[(.sc (.int .i64 0)), .nl, .nl], true, true⟩]
 replace a157 := a157.grow [⟨[(.sc (.int .i64 0)), .nl, .nl], true, true⟩]
 replace B129 := Bd B129 [⟨[(.sc (.int .i64 0)), .nl, .nl], true, true⟩]
 replace B132 := Bd B132 [⟨[(.sc (.int .i64 0)), .nl, .nl], true, true⟩]
 replace a199 := a199.grow [⟨[(.sc (.int .i64 0)), .nl, .nl], true, true⟩]
 replace a201 := a201.grow [⟨[(.sc (.int .i64 0)), .nl, .nl], true, true⟩]
 refine T7 fun i215 i215E B214 => ?_
 have o216 : N15 + Cy (Ar (Bc x0 x1 x2)) ≤ i215 := by have := a36.2.1; omega
 have o217 : (N15 + G5 (.agg (Ar (Bc x0 x1 x2)))) + Cy (Aq (Bi x0 x1 x2)) ≤ i215 := by have := a38.2.1; omega
 have o218 : i40 < i215 := by have := (List.getElem?_eq_some_iff.1 B52).1; omega
 have o219 : i45 < i215 := by have := (List.getElem?_eq_some_iff.1 B55).1; omega
 have o220 : N74 + Cy (Ar (Bc x0 x1 x2)) ≤ i215 := by have := a154.2.1; rw [Fo] at this; omega
 have o221 : (N74 + G5 (.agg (Ar (Bc x0 x1 x2)))) + Cy (Aq (Bi x0 x1 x2)) ≤ i215 := by have := a157.2.1; rw [Fo] at this; omega
 have o222 : i105 < i215 := by have := (List.getElem?_eq_some_iff.1 B129).1; omega
 have o223 : i116 < i215 := by have := (List.getElem?_eq_some_iff.1 B132).1; omega
 have o224 : N171 + Cy (Ar (Bc x0 x1 x2)) ≤ i215 := by have := a199.2.1; omega
 have o225 : (N171 + G5 (.agg (Ar (Bc x0 x1 x2)))) + Cy (Aq (Bi x0 x1 x2)) ≤ i215 := by have := a201.2.1; omega
 have o226 : i203 < i215 := by have := (List.getElem?_eq_some_iff.1 B202).1; omega
 replace a36 := a36.grow [⟨[(.sc (.int .i64 0)), (.sc (.bool false)), (.sc (.int .i64 0)), (.sc (.bool false)), (.sc (.int .i64 0)), (.sc (.string ⟨#[]⟩)), .nl, (.sc (.string ⟨#[]⟩)), (.sc (.int .i64 0)), (.sc (.bool false)), (.sc (.int .i64 0)), (.sc (.bool false)), (.sc (.string ⟨#[]⟩)), .nl, (.sc (.int .i64 0)), (.sc (.bool false)), (.sc (.bool false)), (.sc (.string ⟨#[]⟩)), (.sc (.bool false)), .nl, (.sc (.int .i64 0)), (.sc (.bool false)), .nl, .nl, .nl], true, true⟩]
 replace a38 := a38.grow [⟨[(.sc (.int .i64 0)), (.sc (.bool false)), (.sc (.int .i64 0)), (.sc (.bool false)), (.sc (.int .i64 0)), (.sc (.string ⟨#[]⟩)), .nl, (.sc (.string ⟨#[]⟩)), (.sc (.int .i64 0)), (.sc (.bool false)), (.sc (.int .i64 0)), (.sc (.bool false)), (.sc (.string ⟨#[]⟩)), .nl, (.sc (.int .i64 0)), (.sc (.bool false)), (.sc (.bool false)), (.sc (.string ⟨#[]⟩)), (.sc (.bool false)), .nl, (.sc (.int .i64 0)), (.sc (.bool false)), .nl, .nl, .nl], true, true⟩]
 replace B52 := Bd B52 [⟨[(.sc (.int .i64 0)), (.sc (.bool false)), (.sc (.int .i64 0)), (.sc (.bool false)), (.sc (.int .i64 0)), (.sc (.string ⟨#[]⟩)), .nl, (.sc (.string ⟨#[]⟩)), (.sc (.int .i64 0)), (.sc (.bool false)), (.sc (.int .i64 0)), (.sc (.bool false)), (.sc (.string ⟨#[]⟩)), .nl, (.sc (.int .i64 0)), (.sc (.bool false)), (.sc (.bool false)), (.sc (.string ⟨#[]⟩)), (.sc (.bool false)), .nl, (.sc (.int .i64 0)), (.sc (.bool false)), .nl, .nl, .nl], true, true⟩]
 replace B55 := Bd B55 [⟨[(.sc (.int .i64 0)), (.sc (.bool false)), (.sc (.int .i64 0)), (.sc (.bool false)), (.sc (.int .i64 0)), (.sc (.string ⟨#[]⟩)), .nl, (.sc (.string ⟨#[]⟩)), (.sc (.int .i64 0)), (.sc (.bool false)), (.sc (.int .i64 0)), (.sc (.bool false)), (.sc (.string ⟨#[]⟩)), .nl, (.sc (.int .i64 0)), (.sc (.bool false)), (.sc (.bool false)), (.sc (.string ⟨#[]⟩)), (.sc (.bool false)), .nl, (.sc (.int .i64 0)), (.sc (.bool false)), .nl, .nl, .nl], true, true⟩]
 replace a154 := a154.grow [⟨[(.sc (.int .i64 0)), (.sc (.bool false)), (.sc (.int .i64 0)), (.sc (.bool false)), (.sc (.int .i64 0)), (.sc (.string ⟨#[]⟩)), .nl, (.sc (.string ⟨#[]⟩)), (.sc (.int .i64 0)), (.sc (.bool false)), (.sc (.int .i64 0)), (.sc (.bool false)), (.sc (.string ⟨#[]⟩)), .nl, (.sc (.int .i64 0)), (.sc (.bool false)), (.sc (.bool false)), (.sc (.string ⟨#[]⟩)), (.sc (.bool false)), .nl, (.sc (.int .i64 0)), (.sc (.bool false)), .nl, .nl, .nl], true, true⟩]
 replace a157 := a157.grow [⟨[(.sc (.int .i64 0)), (.sc (.bool false)), (.sc (.int .i64 0)), (.sc (.bool false)), (.sc (.int .i64 0)), (.sc (.string ⟨#[]⟩)), .nl, (.sc (.string ⟨#[]⟩)), (.sc (.int .i64 0)), (.sc (.bool false)), (.sc (.int .i64 0)), (.sc (.bool false)), (.sc (.string ⟨#[]⟩)), .nl, (.sc (.int .i64 0)), (.sc (.bool false)), (.sc (.bool false)), (.sc (.string ⟨#[]⟩)), (.sc (.bool false)), .nl, (.sc (.int .i64 0)), (.sc (.bool false)), .nl, .nl, .nl], true, true⟩]
 replace B129 := Bd B129 [⟨[(.sc (.int .i64 0)), (.sc (.bool false)), (.sc (.int .i64 0)), (.sc (.bool false)), (.sc (.int .i64 0)), (.sc (.string ⟨#[]⟩)), .nl, (.sc (.string ⟨#[]⟩)), (.sc (.int .i64 0)), (.sc (.bool false)), (.sc (.int .i64 0)), (.sc (.bool false)), (.sc (.string ⟨#[]⟩)), .nl, (.sc (.int .i64 0)), (.sc (.bool false)), (.sc (.bool false)), (.sc (.string ⟨#[]⟩)), (.sc (.bool false)), .nl, (.sc (.int .i64 0)), (.sc (.bool false)), .nl, .nl, .nl], true, true⟩]
 replace B132 := Bd B132 [⟨[(.sc (.int .i64 0)), (.sc (.bool false)), (.sc (.int .i64 0)), (.sc (.bool false)), (.sc (.int .i64 0)), (.sc (.string ⟨#[]⟩)), .nl, (.sc (.string ⟨#[]⟩)), (.sc (.int .i64 0)), (.sc (.bool false)), (.sc (.int .i64 0)), (.sc (.bool false)), (.sc (.string ⟨#[]⟩)), .nl, (.sc (.int .i64 0)), (.sc (.bool false)), (.sc (.bool false)), (.sc (.string ⟨#[]⟩)), (.sc (.bool false)), .nl, (.sc (.int .i64 0)), (.sc (.bool false)), .nl, .nl, .nl], true, true⟩]
 replace a199 := a199.grow [⟨[(.sc (.int .i64 0)), (.sc (.bool false)), (.sc (.int .i64 0)), (.sc (.bool false)), (.sc (.int .i64 0)), (.sc (.string ⟨#[]⟩)), .nl, (.sc (.string ⟨#[]⟩)), (.sc (.int .i64 0)), (.sc (.bool false)), (.sc (.int .i64 0)), (.sc (.bool false)), (.sc (.string ⟨#[]⟩)), .nl, (.sc (.int .i64 0)), (.sc (.bool false)), (.sc (.bool false)), (.sc (.string ⟨#[]⟩)), (.sc (.bool false)), .nl, (.sc (.int .i64 0)), (.sc (.bool false)), .nl, .nl, .nl], true, true⟩]
 replace a201 := a201.grow [⟨[(.sc (.int .i64 0)), (.sc (.bool false)), (.sc (.int .i64 0)), (.sc (.bool false)), (.sc (.int .i64 0)), (.sc (.string ⟨#[]⟩)), .nl, (.sc (.string ⟨#[]⟩)), (.sc (.int .i64 0)), (.sc (.bool false)), (.sc (.int .i64 0)), (.sc (.bool false)), (.sc (.string ⟨#[]⟩)), .nl, (.sc (.int .i64 0)), (.sc (.bool false)), (.sc (.bool false)), (.sc (.string ⟨#[]⟩)), (.sc (.bool false)), .nl, (.sc (.int .i64 0)), (.sc (.bool false)), .nl, .nl, .nl], true, true⟩]
 replace B202 := Bd B202 [⟨[(.sc (.int .i64 0)), (.sc (.bool false)), (.sc (.int .i64 0)), (.sc (.bool false)), (.sc (.int .i64 0)), (.sc (.string ⟨#[]⟩)), .nl, (.sc (.string ⟨#[]⟩)), (.sc (.int .i64 0)), (.sc (.bool false)), (.sc (.int .i64 0)), (.sc (.bool false)), (.sc (.string ⟨#[]⟩)), .nl, (.sc (.int .i64 0)), (.sc (.bool false)), (.sc (.bool false)), (.sc (.string ⟨#[]⟩)), (.sc (.bool false)), .nl, (.sc (.int .i64 0)), (.sc (.bool false)), .nl, .nl, .nl], true, true⟩]
 refine J3 B202 rfl (a199.len.trans (Fa _)) (a199.leaf (Fq _)) fun G227 B229 q228 => ?_
 replace a36 := a36.kept q228 (by omega)
 replace a38 := a38.kept q228 (by omega)
 replace B52 := Bs B52 q228 (by omega)
 replace B55 := Bs B55 q228 (by omega)
 replace a154 := a154.kept q228 (by rw [Fo]; omega)
 replace a157 := a157.kept q228 (by rw [Fo]; omega)
 replace B129 := Bs B129 q228 (by omega)
 replace B132 := Bs B132 q228 (by omega)
 replace a199 := a199.kept q228 (by omega)
 replace a201 := a201.kept q228 (by omega)
 replace B214 := Bs B214 q228 (by omega)
 refine J3 B214 rfl (a201.len.trans (E7 _)) (a201.leaf (D0 _)) fun G230 B232 q231 => ?_
 replace a36 := a36.kept q231 (by omega)
 replace a38 := a38.kept q231 (by omega)
 replace B52 := Bs B52 q231 (by omega)
 replace B55 := Bs B55 q231 (by omega)
 replace a154 := a154.kept q231 (by rw [Fo]; omega)
 replace a157 := a157.kept q231 (by rw [Fo]; omega)
 replace B129 := Bs B129 q231 (by omega)
 replace B132 := Bs B132 q231 (by omega)
 replace a199 := a199.kept q231 (by omega)
 replace a201 := a201.kept q231 (by omega)
 replace B229 := Bs B229 q231 (by omega)
 refine Fh B229 (a199.len.trans (Fa _)) ?_
 refine Fh B52 (a36.len.trans (Fa _)) ?_
 refine R4 rfl (A8 (a199.vw (Hb 4 (Bc x0 x1 x2))) (A8 (a36.vw (Hb 4 (Bc x0 x1 x2))) Dc)) (Ql (n + 24) (by omega) _ (Bc x0 x1 x2) s6w) ?_
 refine M2 ?_
 refine Ft ?_
 refine Fh B232 (a201.len.trans (E7 _)) ?_
 refine Ft ?_
 refine Fh B55 (a38.len.trans (E7 _)) ?_
 refine Ft ?_
 refine R4 rfl (A8 (a201.vw (G2 5 (Bi x0 x1 x2))) (A8 (a38.vw (G2 5 (Bi x0 x1 x2))) Dc)) (My (n + 26) (by omega) _ (Bi x0 x1 x2) s8w) ?_
 refine Ft ?_
 refine M2 ?_
 refine R6 ?_
 refine Ft ?_
 refine Ft ?_
 refine Ft ?_
 refine Zf ?_
 refine R6 ?_
 refine Ts ?_
 refine Fh B129 (a101.len.trans (Fa _)) ?_
 refine Of (AaJ (n + 25) (by omega)) (a154.vw (Oj _ _ (Hb 4 (Bc x0 x1 x2)))) (Ve _ s6) (by omega) (by omega) ?_
 refine Fh B132 (a103.len.trans (E7 _)) ?_
 refine Of (Rt (n + 26) (by omega)) (a157.vw (Oj _ _ (G2 5 (Bi x0 x1 x2)))) (Pu _ s8) (by omega) (by omega) ?_
 refine Afb ?_
 refine Ts ?_
 rfl
end Go.Proofs.YtjiahcekpohehaaGreatDoor.Abs
namespace Go.Proofs.YtjiahcekpohehaaGreatDoor.fnExactOutAck
open Go Go.Shelf Go.Lib Go.ChangeShapes Go.WideShapes Go.ChangeAt Go.RowKit
open Go.Proofs.YtjiahcekpohehaaGreatDoor.Abs
set_option linter.unusedVariables false
theorem own : ownKnob Tryz.prog.godebug = none := by kernel_rfl
theorem Ahm : laidOutB Tryz.prog = true := by kernel_rfl
theorem types : ([25, 3, 3].all (tyB Ag 14)) = true := by kernel_rfl
theorem Aft : ([25, 3, 3].all fun t => Tryz.prog.readableRec t && decide (t < Tryz.prog.types.size)) = true := by kernel_rfl
theorem AkI {xs : List AV} (h : AjG Ag 14 [25, 3, 3] xs) : ∃ n, Bt E0 n 4 3 xs = some (.sc (.bool true)) := by
 obtain ⟨y0, ys0, rfl, ⟨cs0, h0, rfl⟩, h⟩ := h
 obtain ⟨y1, ys1, rfl, ⟨cs1, h1, rfl⟩, h⟩ := h
 obtain ⟨y2, ys2, rfl, ⟨cs2, h2, rfl⟩, h⟩ := h
 obtain rfl := h
 obtain ⟨x0, rfl, k0⟩ := Ahx h0
 obtain ⟨x1, rfl, k1⟩ := J5 h1
 obtain ⟨x2, rfl, k2⟩ := J5 h2
 exact ⟨_, Zb 1048577 (by omega) x0 x1 x2 k0 k1 k2⟩
def wArgs : Array Value := #[.agg #[.int .i64 0, .slice none 0 0, .slice none 0 0], .int .i64 0, .int .i64 0]
noncomputable def Mc (os : Os) : World :=
 let w0 := World.holding Tryz.prog os ⟨#[], #[], []⟩
 let put (h : Array Obj) (g : Nat) (cs : Array Value) : Array Obj := h.modify g fun
  | .cells _ t frozen => .cells cs t frozen
  | o => o
 let h1 := put w0.heap 0 (Lib.firstTab.map fun z => Value.int .u8 z).toArray
 let h2 := put h1 1 ((List.range 16).flatMap fun i => [Value.int .u8 (Lib.accLo i), Value.int .u8 (Lib.accHi i)]).toArray
 { w0 with heap := h2 }
theorem AeY (os : Os) (args : Array Value) : laidMet Tryz.prog Rows.fnExactOutAckRow.laid ((Mc os).forCall (fun _ _ => 0) ⟨#[], args, []⟩).memory :=
 (LaidIn.of_run (l := Rows.fnExactOutAckRow.laid) [0, 1] 8 (by kernel_rfl) (by kernel_rfl) (by kernel_rfl) (by kernel_rfl)).met
set_option maxRecDepth 100000 in
theorem Xg (os : Os) {H : Type} (enc : TypeId × Value → H) :
  (OpenSpec.ofChange Rows.fnExactOutAckSpec).preRow enc Tryz.prog Tryz.f3 Rows.fnExactOutAckRow.domain false Rows.fnExactOutAckRow.laid ((Mc os).forCall (fun _ _ => 0) ⟨#[], wArgs, []⟩).memory wArgs := by
 have hw : ((DataW.whole enc Tryz.prog ((Mc os).forCall (fun _ _ => 0) ⟨#[], wArgs, []⟩).memory Tryz.f3.params.toList (OpenSpec.ofChange Rows.fnExactOutAckSpec).vars false wArgs.toList 8).map (fun x => x.2.1)) = some [] := by kernel_rfl
 obtain ⟨⟨x1, x2, x3⟩, hx, hx1⟩ := Option.map_eq_some_iff.1 hw
 simp only at hx1
 subst hx1
 exact OpenSpec.preRow_of_cond 8 hx rfl (fun k hk => by cases hk) rfl (AeY os _)
set_option maxRecDepth 100000 in
set_option maxHeartbeats 2000000 in
theorem lifted (os : Os) (started : os.Started) (H : Type) (enc : TypeId × Value → H) (F : Stop.Interp) :
  ReturnsInHanded {} Tryz.checked os 3 .any ((OpenSpec.ofChange Rows.fnExactOutAckSpec).preRow enc Tryz.prog Tryz.f3 Rows.fnExactOutAckRow.domain false Rows.fnExactOutAckRow.laid) (((OpenSpec.ofChange Rows.fnExactOutAckSpec).at F).post enc Tryz.prog Tryz.f3 false true false false) := by
 refine returnsInHanded_of_row (C := Tryz.checked) (s := OpenSpec.ofChange Rows.fnExactOutAckSpec) own started (by kernel_rfl) Tryz.func3
  (witness_row_atRef (enc := enc) (C := Tryz.checked) false (Mc os) wArgs rfl (by kernel_rfl) (by kernel_rfl) (by kernel_rfl) (Xg os enc)) ?_
 intro W base args ds gs before hval0 hW _ _ _ hL hS _
 have hval : ∀ (j : Nat) t v, Tryz.f3.params[j]? = some t → args[j]? = some v → Value.okWide Tryz.prog W .any base t v := hval0
 have hW' := hW
 obtain ⟨p, q, hA0, hV, rfl, hfz, hnd⟩ := hW
 have hA : DataW.TrodAll enc Tryz.prog W 0 (fun _ => true) true Tryz.f3.params.toList args.toList ds p := hA0
 rw [Tryz.params3] at hA hval
 obtain ⟨xs, hok, hl, hx⟩ := Qz Z2 (n := 14) [25, 3, 3] args.toList ds p hA (fun j t v ht hv => hval j t v (by simpa using ht) (by simpa using hv)) types
 obtain ⟨m, hm⟩ := AkI hok
 have htab0 := utf8Tabs_of_readsT (U8Types.of196 Tryz.laysValid) ⟨by kernel_rfl, by kernel_rfl, by kernel_rfl, by kernel_rfl, by kernel_rfl, by kernel_rfl, by kernel_rfl⟩ (Pinned.utf8First_eq ▸ Lib.laidMet.reads hL (.tail _ (.head _))) (Lib.laidMet.reads hL (.head _))
 have htab : J0 W := ⟨htab0, cell_of_shapedOpen_int (zero := #[.int .i64 0]) hS (of_decide_eq_true (by kernel_rfl)) (by kernel_rfl) rfl (by kernel_rfl) (by kernel_rfl) Tryz.underlying3⟩
 have hc := AcT Alz hm (w := W) htab hl hx
 have hA1 := hA
 obtain ⟨v0, vs0, d0, ds0, p0, q0, hargs, rfl, rfl, g0, r0⟩ := trodAll_cons hA
 obtain ⟨v1, vs1, d1, ds1, p1, q1, rfl, rfl, rfl, g1, r1⟩ := trodAll_cons r0
 obtain ⟨v2, vs2, d2, ds2, p2, q2, rfl, rfl, rfl, g2, r2⟩ := trodAll_cons r1
 obtain ⟨rfl, rfl, rfl⟩ := trodAll_nil r2
 obtain ⟨rfl, rfl⟩ := trodVars_none hV
 have hc2 : Calls Tryz.prog 3 args W fun e W' => e = .returned (.bool true) ∧ Below W.heap.size W W' := by simpa using hc
 refine hc2.mono fun e W' ⟨he, bel⟩ => ?_
 subst he
 exact ⟨_, rfl, _, _, _, [], _, [], hW', trodAll_mk1 (shut_bool Tryz.underlying4 _), Mt Ahm bel Aft hA1, rfl, bel.frame _, fun h => by cases h⟩
end Go.Proofs.YtjiahcekpohehaaGreatDoor.fnExactOutAck
