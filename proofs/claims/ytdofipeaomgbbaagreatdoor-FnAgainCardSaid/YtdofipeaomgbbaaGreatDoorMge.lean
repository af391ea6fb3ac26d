/- What the proof needs, part 5: a sound evaluator over trees, the program's functions on it, and what they come to. -/
import Derived.Test.YtdofipeaomgbbaaGreatDoorMgd
import Derived.Test.YtdofipeaomgbbaaGreatDoorRows
import Derived.Test.YtdofipeaomgbbaaGreatDoorTie
import Derived.Test.YtdofipeaomgbbaaGreatDoorCards
import Derived.Lib.LaidIn
import Derived.Lib.LaidU8T
import Derived.PinnedBridge
import Derived.SevenTiedAt
import Derived.Deep.DeepHandedRow
import Derived.Deep.DeepWitnessRowRef
import Derived.WalkKit
import Derived.ProofKit
import Derived.OpenShut
import Derived.ShutString
import Derived.ChangeOld
import Derived.Below
import Derived.SizedLaws
set_option linter.unusedVariables false
set_option linter.unusedSimpArgs false
set_option maxRecDepth 100000
set_option maxHeartbeats 1600000
namespace Go.Proofs.YtdofipeaomgbbaaGreatDoor.Abs
open _root_.Option renaming bind_some → zab, getD_some → zaC, map_eq_some_iff → zaT
open _root_.List renaming getElem?_eq_some_iff → zac, replicate → zad, length_append → zag, nil_append → zah, append_assoc → zaj, getElem?_eq_getElem → zam, append_nil → zan, length_singleton → zao, mem_append_right → zap, cons_append → zar, mem_append_left → zas, mem_cons_of_mem → zat, map_cons → zau, length_cons → zav, length_nil → zay, getElem?_set_ne → za1, mem_cons → za2, all_eq_true → za3, forall_mem_append → za4, map_append → za5, length_take → za6, mem_cons_self → za8, replicate_append_replicate → zaB, length_drop → zaF, nodup_cons → zaH, not_mem_nil → zaI, mem_append → zaJ, take_append_drop → zaL, nodup_append → zaP, mem_range'_1 → zaQ, drop_drop → zaV, getElem?_map → zaZ, nodup_range' → zbb, getElem?_set_self → zbf, any_cons → zbg, length_set → zbh, range' → zbk, map_nil → zbs, take_of_length_le → zbv, Perm → zb1, mem_singleton → zb6, headD_cons → zbB, length_map → zbC, mem_of_getElem? → zbF, tail_cons → zbG, drop_take → zbH, take_take → zbI, drop_left' → zbL
open _root_.Bool renaming and_eq_true → zai, false_eq_true → zal, or_eq_false_iff → zbE
open _root_.Nat renaming le_refl → zak, zero_add → zaw, le_trans → zaz, mul_le_mul_right → za7, add_le_add_right → za9, add_le_add_left → zaD, min_eq_left → zaK, add_mul → zaM, zero_le → zaN, add_zero → zbd, one_mul → zbt
open _root_.Int renaming toNat_natCast → zbm
section
open Go
def Db (kd id : Int) (o : A7) (pre : List Ad) : List Ad → A7 × Az × Bool
 | [] => (o, Ho, false)
 | f :: t => if f.fId = id then (if (kd = 4 ∧ f.fSt = 1) ∨ (kd = 7 ∧ f.fSt = 3) then ({ o with fFl := pre ++ t }, Ho, true)
   else if kd = 5 ∧ ¬ f.fSt = 1 then ({ o with fFl := pre ++ { f with fSt := 3 } :: t }, Al id, true) else Db kd id o (pre ++ [f]) t) else Db kd id o (pre ++ [f]) t
def D6 (o : A7) (kd id : Int) : A7 × Az × Bool := if C9 o then Db kd id o [] o.fFl else (o, Ho, false)
theorem AjL (o : A7) (h : Fj o ≤ 1048576) : Oc o := by
 have h1 := Qb o h
 exact ⟨⟨h1.1.1, fun y hy => (h1.1.2 y hy).1⟩, ⟨h1.2.1.1, fun y hy => (h1.2.1.2 y hy).1⟩⟩
theorem Q5 (o : A7) (b : Fj o ≤ 1048576) : o.fFl.length ≤ 1048576 := (R9 o b).1.1
theorem Gh (n : Nat) (hn : 1048576 < n) (x0 : A7) (kd : Int) (d : Int) (b0 : Fj x0 ≤ 1048576) (h13 : (C9 x0) = true)  : ∀ (t pre : List Ad) (m : Nat) (i : Int) (i10 i5 i3 i1 : Nat) (x8 x7 : AV) (H : Ab), x0.fFl = pre ++ t → i = ((pre.length : Nat) : Int) → t.length < m → Ap x8 = true → Ap x7 = true → Sep H [.blk i10 [.sc (.int .i64 x0.fLast), x7, x8] true, .own x8 25 (Ai Aj x0.fQ), .own x7 24 (Ai Aq x0.fFl), .blk i5 [.sc (.int .i64 0), .sc (.bool false), .sc (.int .i64 0), .sc (.bool false), .sc (.int .i64 0), .sc (.string (⟨#[]⟩)), .nl, .sc (.string (⟨#[]⟩)), .sc (.int .i64 0), .sc (.bool false), .sc (.int .i64 0), .sc (.bool false), .sc (.string (⟨#[]⟩)), .nl, .sc (.int .i64 0), .sc (.bool false), .sc (.bool false), .sc (.string (⟨#[]⟩)), .sc (.bool false), .nl, .sc (.int .i64 0), .sc (.bool false), .nl, .nl, .nl] true, .blk i3 [.sc (.int .i64 0), .nl, .nl] true, .blk i1 (Bf x0) true] → Gd (· = some (.tup [.agg (Bf (Db kd d x0 pre t).1), .agg (Bd (Db kd d x0 pre t).2.1), .sc (.bool (Db kd d x0 pre t).2.2)])) (Mq (PR (n + 12) AV) (n + 12) (fun x H => Ba Ar E0.tp 45 H x) m (.sc (.int .i64 kd)) (.sc (.int .i64 d)) (.ptr i1 0) (.ptr i3 0) (.ptr i5 0) (.ptr i10 0) (.sc (.int .i64 i)) H)
 | [], pre, m + 1, i, i10, i5, i3, i1, x8, x7, H, he, hi, hm, lx8, lx7, s0 => by
  obtain rfl : pre = x0.fFl := by simpa using he.symm
  have hfl := Q5 x0 b0
  rw [Mq]
  try simp only [Qg, Qf]
  refine Am (o' := 1) rfl (A0 (c := Ai Aq x0.fFl) s0 Nk rfl (Sd (Mu (Bt (by simp [hi]) (Ae s0 (.here) rfl (Bk (cs := [.sc (.int .i64 0), .sc (.bool false), .sc (.int .i64 0), .sc (.bool false), .sc (.int .i64 0), .sc (.string (⟨#[]⟩)), .nl, .sc (.string (⟨#[]⟩)), .sc (.int .i64 0), .sc (.bool false), .sc (.int .i64 0), .sc (.bool false), .sc (.string (⟨#[]⟩)), .nl, .sc (.int .i64 0), .sc (.bool false), .sc (.bool false), .sc (.string (⟨#[]⟩)), .sc (.bool false), .nl, .sc (.int .i64 0), .sc (.bool false), .nl, .nl, .nl]) rfl (Bg (cs' := [.sc (.int .i64 x0.fLast), x7, x8]) s0 E2 (Ac (Aa rfl (Aa lx7 (Aa lx8 rfl)))) rfl (A9 rfl) rfl fun H s201 => Bg (cs' := [.sc (.int .i64 0), .sc (.bool false), .sc (.int .i64 0), .sc (.bool false), .sc (.int .i64 0), .sc (.string (⟨#[]⟩)), .nl, .sc (.string (⟨#[]⟩)), .sc (.int .i64 0), .sc (.bool false), .sc (.int .i64 0), .sc (.bool false), .sc (.string (⟨#[]⟩)), .nl, .sc (.int .i64 0), .sc (.bool false), .sc (.bool false), .sc (.string (⟨#[]⟩)), .sc (.bool false), .nl, .sc (.int .i64 0), .sc (.bool false), .nl, .nl, .nl]) s201 E2 (Ac rfl) rfl (A9 rfl) rfl fun H s202 => Ae s202 A1 rfl (Ae s202 (.here) rfl (Dn (Dt s202 rfl (.agg ⟨_, rfl, rfl⟩ (.sc (.own E2 (.own Cq .nil))) (.agg ⟨_, rfl, rfl⟩ (G6 (.nl (G6 (.nl (Mk (.nl (.sc (.sc (.nl (.nl (.nl .nil))))))))))) (.sc .nil))) ⟨(Er ⟨_, rfl, rfl⟩ ⟨trivial, ⟨(At (Cm x0.fFl) (by decide)), ⟨(At (Ef x0.fQ) (by decide)), trivial⟩⟩⟩), ⟨(Er ⟨_, rfl, rfl⟩ (G7 ⟨Dp, (G7 ⟨Dp, (Mi ⟨Dp, (K4 ⟨Dp, ⟨Dp, ⟨Dp, trivial⟩⟩⟩)⟩)⟩)⟩)), ⟨trivial, trivial⟩⟩⟩) ?_)))))))))
  have e : Db kd d x0 x0.fFl [] = ((⟨x0.fLast, x0.fFl, x0.fQ⟩ : A7), Ho, false) := by
   try simp only [F4] at h13
   rfl
  ·rw [e]
   first | done | rfl
 | y :: t, pre, m + 1, i, i10, i5, i3, i1, x8, x7, H, he, hi, hm, lx8, lx7, s0 => by
  have hlt : pre.length < x0.fFl.length := by rw [he]; simp
  have hfl := Q5 x0 b0
  rw [Mq]
  try simp only [Qg, Qf]
  refine Am (o' := 1) rfl (A0 (c := Ai Aq x0.fFl) s0 Nk rfl (Sd (Mu (Ci (by simp [hi]; omega) (Am (o' := 1) rfl (A0 (c := Ai Aq x0.fFl) s0 Nk rfl (Sc hi A5 (by decide) he (AgM (A5 _) (Dc s0 fun i201 H s202 => Bg (cs' := Aq y) s202 (.here) (F8 (Du _)) rfl (A9 rfl) rfl fun H s203 => Am (o' := 0) rfl (A0 (c := .sc (.int .i64 y.fId)) s203 (.here) rfl (Mv (Af ((decide (y.fId = d))) (fun h204 => ?_) fun h204 => ?_))))))))))))
  refine Bt (nF h204) (Bp (Af ((decide (kd = 4))) (fun h205 => ?_) fun h205 => ?_))
  refine A6 h205 (Am (o' := 5) rfl (A6 h205 (A0 (c := si y.fSt) s203 (.here) rfl (A6 h205 (Bp (G8 h205 (Af ((decide (y.fSt = 1))) (fun h206 => ?_) fun h206 => ?_)))))))
  refine Dx h206 (Dx h206 (Dx h206 (Ib (Ib (Ib (Dx h206 (G8 h206 (Ci rfl (Am (o' := 1) rfl (A0 (c := x7) s203 A1 rfl ?_))))))))))
  have s207 := s203.toShs Cq
  refine La (a := 0) (b := i) s207 ⟨_, _, rfl, rfl, rfl, rfl⟩ (.here) rfl rfl (by omega) (by first | omega | (simp; omega)) (by first | omega | (simp; omega)) A5 rfl fun y208 ly208 qy208 s209 => Am (o' := 1) rfl (A0 (c := x7) s209 Bu rfl (Gx (by omega) (by omega) (La (a := (i + 1)) (b := ((x0.fFl.length : Nat) : Int)) s209 ⟨_, _, rfl, rfl, rfl, rfl⟩ (.here) rfl rfl (by omega) (by first | omega | (simp; omega)) (by first | omega | (simp; omega)) A5 rfl fun y210 ly210 qy210 s211 => Oq (i := i.toNat) s211 ⟨_, _, rfl, rfl, rfl, rfl⟩ (.here) (by omega) qy208 (by have h := qy210; rw [show (i + 1).toNat = i.toNat + 1 by omega, zbm] at h; exact h) A5 Du rfl (by omega) fun x212 H lx212 s213 => Am (o' := 1) rfl (B0 s213 Bu lx212 rfl fun H s214 => Ae s214 (.here) rfl (Bk (cs := [.sc (.int .i64 0), .sc (.bool false), .sc (.int .i64 0), .sc (.bool false), .sc (.int .i64 0), .sc (.string (⟨#[]⟩)), .nl, .sc (.string (⟨#[]⟩)), .sc (.int .i64 0), .sc (.bool false), .sc (.int .i64 0), .sc (.bool false), .sc (.string (⟨#[]⟩)), .nl, .sc (.int .i64 0), .sc (.bool false), .sc (.bool false), .sc (.string (⟨#[]⟩)), .sc (.bool false), .nl, .sc (.int .i64 0), .sc (.bool false), .nl, .nl, .nl]) rfl (Bg (cs' := [.sc (.int .i64 x0.fLast), x212, x8]) s214 Nk (Ac (Aa rfl (Aa lx212 (Aa lx8 rfl)))) rfl (A9 rfl) rfl fun H s215 => Bg (cs' := [.sc (.int .i64 0), .sc (.bool false), .sc (.int .i64 0), .sc (.bool false), .sc (.int .i64 0), .sc (.string (⟨#[]⟩)), .nl, .sc (.string (⟨#[]⟩)), .sc (.int .i64 0), .sc (.bool false), .sc (.int .i64 0), .sc (.bool false), .sc (.string (⟨#[]⟩)), .nl, .sc (.int .i64 0), .sc (.bool false), .sc (.bool false), .sc (.string (⟨#[]⟩)), .sc (.bool false), .nl, .sc (.int .i64 0), .sc (.bool false), .nl, .nl, .nl]) s215 Nk (Ac rfl) rfl (A9 rfl) rfl fun H s216 => Ae s216 A1 rfl (Ae s216 (.here) rfl ?_)))))))
  refine Dn (Dt s216 rfl (.agg ⟨_, rfl, rfl⟩ (.sc (.own Cq (.own E2 .nil))) (.agg ⟨_, rfl, rfl⟩ (G6 (.nl (G6 (.nl (Mk (.nl (.sc (.sc (.nl (.nl (.nl .nil))))))))))) (.sc .nil))) ⟨(Er ⟨_, rfl, rfl⟩ ⟨trivial, ⟨(At (Cm (x0.fFl.take i.toNat ++ x0.fFl.drop (i.toNat + 1))) (by decide)), ⟨(At (Ef x0.fQ) (by decide)), trivial⟩⟩⟩), ⟨(Er ⟨_, rfl, rfl⟩ (G7 ⟨Dp, (G7 ⟨Dp, (Mi ⟨Dp, (K4 ⟨Dp, ⟨Dp, ⟨Dp, trivial⟩⟩⟩)⟩)⟩)⟩)), ⟨trivial, trivial⟩⟩⟩) ?_
  have e : Db kd d x0 pre (y :: t) = ((⟨x0.fLast, (x0.fFl.take i.toNat ++ x0.fFl.drop (i.toNat + 1)), x0.fQ⟩ : A7), Ho, true) := by
   clear s0 s202 s203 s207 s209 s211 s213 s214 s215 s216
   try simp only [F4] at h13 h204 h205 h206
   try rw [show x0.fFl.take i.toNat ++ x0.fFl.drop (i.toNat + 1) = pre ++ t from by rw [he, hi]; simp]
   try rw [show x0.fFl.set (i).toNat ({ y with fSt := 3 } : Ad) = pre ++ ({ y with fSt := 3 } : Ad) :: t from by rw [he, hi]; simp]
   rw [Db]
   (repeat' split) <;> first | rfl | (exfalso; omega)
  ·rw [e]
   first | done | rfl
  refine A6 h206 (A6 h206 (Bp (A6 h206 (Af ((decide (kd = 7))) (fun h217 => ?_) fun h217 => ?_))))
  refine A6 h217 (Am (o' := 5) rfl (A6 h217 (A0 (c := si y.fSt) s203 (.here) rfl (A6 h217 (Bp (A6 h206 (G8 h217 (F3 h206 (Af ((decide (y.fSt = 3))) (fun h218 => ?_) fun h218 => ?_)))))))))
  refine Ci h218 (Am (o' := 1) rfl (A0 (c := x7) s203 A1 rfl ?_))
  have s219 := s203.toShs Cq
  refine La (a := 0) (b := i) s219 ⟨_, _, rfl, rfl, rfl, rfl⟩ (.here) rfl rfl (by omega) (by first | omega | (simp; omega)) (by first | omega | (simp; omega)) A5 rfl fun y220 ly220 qy220 s221 => Am (o' := 1) rfl (A0 (c := x7) s221 Bu rfl (Gx (by omega) (by omega) (La (a := (i + 1)) (b := ((x0.fFl.length : Nat) : Int)) s221 ⟨_, _, rfl, rfl, rfl, rfl⟩ (.here) rfl rfl (by omega) (by first | omega | (simp; omega)) (by first | omega | (simp; omega)) A5 rfl fun y222 ly222 qy222 s223 => Oq (i := i.toNat) s223 ⟨_, _, rfl, rfl, rfl, rfl⟩ (.here) (by omega) qy220 (by have h := qy222; rw [show (i + 1).toNat = i.toNat + 1 by omega, zbm] at h; exact h) A5 Du rfl (by omega) fun x224 H lx224 s225 => Am (o' := 1) rfl (B0 s225 Bu lx224 rfl fun H s226 => Ae s226 (.here) rfl (Bk (cs := [.sc (.int .i64 0), .sc (.bool false), .sc (.int .i64 0), .sc (.bool false), .sc (.int .i64 0), .sc (.string (⟨#[]⟩)), .nl, .sc (.string (⟨#[]⟩)), .sc (.int .i64 0), .sc (.bool false), .sc (.int .i64 0), .sc (.bool false), .sc (.string (⟨#[]⟩)), .nl, .sc (.int .i64 0), .sc (.bool false), .sc (.bool false), .sc (.string (⟨#[]⟩)), .sc (.bool false), .nl, .sc (.int .i64 0), .sc (.bool false), .nl, .nl, .nl]) rfl (Bg (cs' := [.sc (.int .i64 x0.fLast), x224, x8]) s226 Nk (Ac (Aa rfl (Aa lx224 (Aa lx8 rfl)))) rfl (A9 rfl) rfl fun H s227 => Bg (cs' := [.sc (.int .i64 0), .sc (.bool false), .sc (.int .i64 0), .sc (.bool false), .sc (.int .i64 0), .sc (.string (⟨#[]⟩)), .nl, .sc (.string (⟨#[]⟩)), .sc (.int .i64 0), .sc (.bool false), .sc (.int .i64 0), .sc (.bool false), .sc (.string (⟨#[]⟩)), .nl, .sc (.int .i64 0), .sc (.bool false), .sc (.bool false), .sc (.string (⟨#[]⟩)), .sc (.bool false), .nl, .sc (.int .i64 0), .sc (.bool false), .nl, .nl, .nl]) s227 Nk (Ac rfl) rfl (A9 rfl) rfl fun H s228 => Ae s228 A1 rfl (Ae s228 (.here) rfl ?_)))))))
  refine Dn (Dt s228 rfl (.agg ⟨_, rfl, rfl⟩ (.sc (.own Cq (.own E2 .nil))) (.agg ⟨_, rfl, rfl⟩ (G6 (.nl (G6 (.nl (Mk (.nl (.sc (.sc (.nl (.nl (.nl .nil))))))))))) (.sc .nil))) ⟨(Er ⟨_, rfl, rfl⟩ ⟨trivial, ⟨(At (Cm (x0.fFl.take i.toNat ++ x0.fFl.drop (i.toNat + 1))) (by decide)), ⟨(At (Ef x0.fQ) (by decide)), trivial⟩⟩⟩), ⟨(Er ⟨_, rfl, rfl⟩ (G7 ⟨Dp, (G7 ⟨Dp, (Mi ⟨Dp, (K4 ⟨Dp, ⟨Dp, ⟨Dp, trivial⟩⟩⟩)⟩)⟩)⟩)), ⟨trivial, trivial⟩⟩⟩) ?_
  have e : Db kd d x0 pre (y :: t) = ((⟨x0.fLast, (x0.fFl.take i.toNat ++ x0.fFl.drop (i.toNat + 1)), x0.fQ⟩ : A7), Ho, true) := by
   clear s0 s202 s203 s219 s221 s223 s225 s226 s227 s228
   try simp only [F4] at h13 h204 h205 h206 h217 h218
   try rw [show x0.fFl.take i.toNat ++ x0.fFl.drop (i.toNat + 1) = pre ++ t from by rw [he, hi]; simp]
   try rw [show x0.fFl.set (i).toNat ({ y with fSt := 3 } : Ad) = pre ++ ({ y with fSt := 3 } : Ad) :: t from by rw [he, hi]; simp]
   rw [Db]
   (repeat' split) <;> first | rfl | (exfalso; omega)
  ·rw [e]
   first | done | rfl
  refine Bt h218 (Bp (Af ((decide (kd = 5))) (fun h229 => ?_) fun h229 => ?_))
  refine A6 h229 (Am (o' := 5) rfl (A6 h229 (A0 (c := si y.fSt) s203 (.here) rfl (A6 h229 (Mv (G8 h229 (Ci (nT h206) (Am (o' := 1) rfl (A0 (c := x7) s203 A1 rfl ?_)))))))))
  have he230 : (x0.fFl)[(i).toNat]? = some y := by rw [he, hi]; simp
  refine Ik (y := y) (y' := ({ y with fSt := 3 } : Ad)) (k := 5) (v := (.int .i64 y.fSt)) s203 ⟨_, _, rfl, rfl, rfl, rfl⟩ Cq (by omega) he230 A5 (by omega) rfl rfl rfl fun H s231 => Ae s231 Bu rfl ?_
  have c232 := Pe (n + 8) (by omega) d
  refine Gl s231 rfl (Hz .nil) (c232) ⟨_, rfl, rfl⟩ (Eh _) ?_
  rintro _ _ H ⟨x233, x234, x235, x236, x237, x238, lx233, lx234, lx235, lx236, lx237, lx238, rfl, rfl⟩ s239
  simp only [zah, zar] at s239
  refine Bg (cs' := [si x0.fLast, x7, x8]) s239 Of (Ac (Aa rfl (Aa lx7 (Aa lx8 rfl)))) rfl (A9 rfl) rfl fun H s240 => Bg (cs' := [si ((Al d).fType), .sc (.bool (Al d).fDup), si ((Al d).fQos), .sc (.bool (Al d).fRetain), si ((Al d).fId), ss ((Al d).fTopic), x233, ss ((Al d).fClient), si ((Al d).fLevel), .sc (.bool (Al d).fClean), si ((Al d).fKeep), .sc (.bool (Al d).fHasWill), ss ((Al d).fWTopic), x234, si ((Al d).fWQos), .sc (.bool (Al d).fWRetain), .sc (.bool (Al d).fHasUser), ss ((Al d).fUser), .sc (.bool (Al d).fHasPass), x235, si ((Al d).fCode), .sc (.bool (Al d).fPresent), x236, x237, x238]) s240 Of (Ac (Aa rfl (Aa rfl (Aa rfl (Aa rfl (Aa rfl (Aa rfl (Aa lx233 (Aa rfl (Aa rfl (Aa rfl (Aa rfl (Aa rfl (Aa rfl (Aa lx234 (Aa rfl (Aa rfl (Aa rfl (Aa rfl (Aa rfl (Aa lx235 (Aa rfl (Aa rfl (Aa lx236 (Aa lx237 (Aa lx238 rfl)))))))))))))))))))))))))) rfl (A9 rfl) rfl fun H s241 => Ae s241 A1 rfl (Ae s241 (.here) rfl ?_)
  refine Dn (Dt s241 rfl (.agg ⟨_, rfl, rfl⟩ (.sc (.own Ya (.own Nn .nil))) (.agg ⟨_, rfl, rfl⟩ (G6 (.own Z8 (G6 (.own X9 (Mk (.own Nk (.sc (.sc (.own E2 (.own Cq (.own Bu .nil))))))))))) (.sc .nil))) ⟨(Er ⟨_, rfl, rfl⟩ ⟨trivial, ⟨(At (Cm (x0.fFl.set (i).toNat ({ y with fSt := 3 } : Ad))) (by decide)), ⟨(At (Ef x0.fQ) (by decide)), trivial⟩⟩⟩), ⟨(Er ⟨_, rfl, rfl⟩ (G7 ⟨(At (Gq ((Al d).fBody)) (by decide)), (G7 ⟨(At (Gq ((Al d).fWBody)) (by decide)), (Mi ⟨(At (Gq ((Al d).fPass)) (by decide)), (K4 ⟨(At (Im ((Al d).fWants)) (by decide)), ⟨(At (S0 ((Al d).fNames)) (by decide)), ⟨(At (Sz ((Al d).fCodes)) (by decide)), trivial⟩⟩⟩)⟩)⟩)⟩)), ⟨trivial, trivial⟩⟩⟩) ?_
  have e : Db kd d x0 pre (y :: t) = ((⟨x0.fLast, (x0.fFl.set (i).toNat ({ y with fSt := 3 } : Ad)), x0.fQ⟩ : A7), (Al d), true) := by
   clear s0 s202 s203 s231 s239 s240 s241
   try simp only [F4] at h13 h204 h205 h206 h217 h218 h229
   try rw [show x0.fFl.take i.toNat ++ x0.fFl.drop (i.toNat + 1) = pre ++ t from by rw [he, hi]; simp]
   try rw [show x0.fFl.set (i).toNat ({ y with fSt := 3 } : Ad) = pre ++ ({ y with fSt := 3 } : Ad) :: t from by rw [he, hi]; simp]
   rw [Db]
   (repeat' split) <;> first | rfl | (exfalso; omega)
  ·rw [e]
   first | done | rfl
  refine Dx h229 (Dx h229 (Dx h229 (F3 h229 (Bt rfl (Gx (by omega) (by omega) ?_)))))
  have e242 : Db kd d x0 pre (y :: t) = Db kd d x0 (pre ++ [y]) t := by
   clear s0 s202 s203
   try simp only [bne_iff_ne, beq_iff_eq, beq_eq_false_iff_ne, F4] at h13 h204 h205 h206 h217 h218 h229
   rw [Db]; (repeat' split) <;> first | rfl | (exfalso; omega)
  rw [e242]
  exact Gh n hn x0 kd d b0 h13  t (pre ++ [y]) m _ i10 i5 i3 i1 x8 x7 _ (by rw [he]; simp) (by rw [hi]; simp) (by simpa using hm) lx8 lx7 (by simpa only [za5, zau, zbs] using (s203.sel (.cons A1 (.cons A1 (.cons A1 (.cons A1 (.cons A1 (.cons A1 .nil))))))))
  refine Dx h217 (Dx h217 (Dx h217 (A6 h206 (F3 h217 (F3 h206 (Bt rfl (Bp (Af ((decide (kd = 5))) (fun h243 => ?_) fun h243 => ?_))))))))
  refine A6 h243 (Am (o' := 5) rfl (A6 h243 (A0 (c := si y.fSt) s203 (.here) rfl (A6 h243 (Mv (G8 h243 (Ci (nT h206) (Am (o' := 1) rfl (A0 (c := x7) s203 A1 rfl ?_)))))))))
  have he244 : (x0.fFl)[(i).toNat]? = some y := by rw [he, hi]; simp
  refine Ik (y := y) (y' := ({ y with fSt := 3 } : Ad)) (k := 5) (v := (.int .i64 y.fSt)) s203 ⟨_, _, rfl, rfl, rfl, rfl⟩ Cq (by omega) he244 A5 (by omega) rfl rfl rfl fun H s245 => Ae s245 Bu rfl ?_
  have c246 := Pe (n + 8) (by omega) d
  refine Gl s245 rfl (Hz .nil) (c246) ⟨_, rfl, rfl⟩ (Eh _) ?_
  rintro _ _ H ⟨x247, x248, x249, x250, x251, x252, lx247, lx248, lx249, lx250, lx251, lx252, rfl, rfl⟩ s253
  simp only [zah, zar] at s253
  refine Bg (cs' := [si x0.fLast, x7, x8]) s253 Of (Ac (Aa rfl (Aa lx7 (Aa lx8 rfl)))) rfl (A9 rfl) rfl fun H s254 => Bg (cs' := [si ((Al d).fType), .sc (.bool (Al d).fDup), si ((Al d).fQos), .sc (.bool (Al d).fRetain), si ((Al d).fId), ss ((Al d).fTopic), x247, ss ((Al d).fClient), si ((Al d).fLevel), .sc (.bool (Al d).fClean), si ((Al d).fKeep), .sc (.bool (Al d).fHasWill), ss ((Al d).fWTopic), x248, si ((Al d).fWQos), .sc (.bool (Al d).fWRetain), .sc (.bool (Al d).fHasUser), ss ((Al d).fUser), .sc (.bool (Al d).fHasPass), x249, si ((Al d).fCode), .sc (.bool (Al d).fPresent), x250, x251, x252]) s254 Of (Ac (Aa rfl (Aa rfl (Aa rfl (Aa rfl (Aa rfl (Aa rfl (Aa lx247 (Aa rfl (Aa rfl (Aa rfl (Aa rfl (Aa rfl (Aa rfl (Aa lx248 (Aa rfl (Aa rfl (Aa rfl (Aa rfl (Aa rfl (Aa lx249 (Aa rfl (Aa rfl (Aa lx250 (Aa lx251 (Aa lx252 rfl)))))))))))))))))))))))))) rfl (A9 rfl) rfl fun H s255 => Ae s255 A1 rfl (Ae s255 (.here) rfl ?_)
  refine Dn (Dt s255 rfl (.agg ⟨_, rfl, rfl⟩ (.sc (.own Ya (.own Nn .nil))) (.agg ⟨_, rfl, rfl⟩ (G6 (.own Z8 (G6 (.own X9 (Mk (.own Nk (.sc (.sc (.own E2 (.own Cq (.own Bu .nil))))))))))) (.sc .nil))) ⟨(Er ⟨_, rfl, rfl⟩ ⟨trivial, ⟨(At (Cm (x0.fFl.set (i).toNat ({ y with fSt := 3 } : Ad))) (by decide)), ⟨(At (Ef x0.fQ) (by decide)), trivial⟩⟩⟩), ⟨(Er ⟨_, rfl, rfl⟩ (G7 ⟨(At (Gq ((Al d).fBody)) (by decide)), (G7 ⟨(At (Gq ((Al d).fWBody)) (by decide)), (Mi ⟨(At (Gq ((Al d).fPass)) (by decide)), (K4 ⟨(At (Im ((Al d).fWants)) (by decide)), ⟨(At (S0 ((Al d).fNames)) (by decide)), ⟨(At (Sz ((Al d).fCodes)) (by decide)), trivial⟩⟩⟩)⟩)⟩)⟩)), ⟨trivial, trivial⟩⟩⟩) ?_
  have e : Db kd d x0 pre (y :: t) = ((⟨x0.fLast, (x0.fFl.set (i).toNat ({ y with fSt := 3 } : Ad)), x0.fQ⟩ : A7), (Al d), true) := by
   clear s0 s202 s203 s245 s253 s254 s255
   try simp only [F4] at h13 h204 h205 h206 h217 h243
   try rw [show x0.fFl.take i.toNat ++ x0.fFl.drop (i.toNat + 1) = pre ++ t from by rw [he, hi]; simp]
   try rw [show x0.fFl.set (i).toNat ({ y with fSt := 3 } : Ad) = pre ++ ({ y with fSt := 3 } : Ad) :: t from by rw [he, hi]; simp]
   rw [Db]
   (repeat' split) <;> first | rfl | (exfalso; omega)
  ·rw [e]
   first | done | rfl
  refine Dx h243 (Dx h243 (Dx h243 (F3 h243 (Bt rfl (Gx (by omega) (by omega) ?_)))))
  have e256 : Db kd d x0 pre (y :: t) = Db kd d x0 (pre ++ [y]) t := by
   clear s0 s202 s203
   try simp only [bne_iff_ne, beq_iff_eq, beq_eq_false_iff_ne, F4] at h13 h204 h205 h206 h217 h243
   rw [Db]; (repeat' split) <;> first | rfl | (exfalso; omega)
  rw [e256]
  exact Gh n hn x0 kd d b0 h13  t (pre ++ [y]) m _ i10 i5 i3 i1 x8 x7 _ (by rw [he]; simp) (by rw [hi]; simp) (by simpa using hm) lx8 lx7 (by simpa only [za5, zau, zbs] using (s203.sel (.cons A1 (.cons A1 (.cons A1 (.cons A1 (.cons A1 (.cons A1 .nil))))))))
  refine Dx h205 (Dx h205 (Dx h205 (F3 h205 (A6 rfl (A6 rfl (Bp (A6 rfl (Af ((decide (kd = 7))) (fun h257 => ?_) fun h257 => ?_))))))))
  refine A6 h257 (Am (o' := 5) rfl (A6 h257 (A0 (c := si y.fSt) s203 (.here) rfl (A6 h257 (Bp (A6 rfl (G8 h257 (F3 rfl (Af ((decide (y.fSt = 3))) (fun h258 => ?_) fun h258 => ?_)))))))))
  refine Ci h258 (Am (o' := 1) rfl (A0 (c := x7) s203 A1 rfl ?_))
  have s259 := s203.toShs Cq
  refine La (a := 0) (b := i) s259 ⟨_, _, rfl, rfl, rfl, rfl⟩ (.here) rfl rfl (by omega) (by first | omega | (simp; omega)) (by first | omega | (simp; omega)) A5 rfl fun y260 ly260 qy260 s261 => Am (o' := 1) rfl (A0 (c := x7) s261 Bu rfl (Gx (by omega) (by omega) (La (a := (i + 1)) (b := ((x0.fFl.length : Nat) : Int)) s261 ⟨_, _, rfl, rfl, rfl, rfl⟩ (.here) rfl rfl (by omega) (by first | omega | (simp; omega)) (by first | omega | (simp; omega)) A5 rfl fun y262 ly262 qy262 s263 => Oq (i := i.toNat) s263 ⟨_, _, rfl, rfl, rfl, rfl⟩ (.here) (by omega) qy260 (by have h := qy262; rw [show (i + 1).toNat = i.toNat + 1 by omega, zbm] at h; exact h) A5 Du rfl (by omega) fun x264 H lx264 s265 => Am (o' := 1) rfl (B0 s265 Bu lx264 rfl fun H s266 => Ae s266 (.here) rfl (Bk (cs := [.sc (.int .i64 0), .sc (.bool false), .sc (.int .i64 0), .sc (.bool false), .sc (.int .i64 0), .sc (.string (⟨#[]⟩)), .nl, .sc (.string (⟨#[]⟩)), .sc (.int .i64 0), .sc (.bool false), .sc (.int .i64 0), .sc (.bool false), .sc (.string (⟨#[]⟩)), .nl, .sc (.int .i64 0), .sc (.bool false), .sc (.bool false), .sc (.string (⟨#[]⟩)), .sc (.bool false), .nl, .sc (.int .i64 0), .sc (.bool false), .nl, .nl, .nl]) rfl (Bg (cs' := [.sc (.int .i64 x0.fLast), x264, x8]) s266 Nk (Ac (Aa rfl (Aa lx264 (Aa lx8 rfl)))) rfl (A9 rfl) rfl fun H s267 => Bg (cs' := [.sc (.int .i64 0), .sc (.bool false), .sc (.int .i64 0), .sc (.bool false), .sc (.int .i64 0), .sc (.string (⟨#[]⟩)), .nl, .sc (.string (⟨#[]⟩)), .sc (.int .i64 0), .sc (.bool false), .sc (.int .i64 0), .sc (.bool false), .sc (.string (⟨#[]⟩)), .nl, .sc (.int .i64 0), .sc (.bool false), .sc (.bool false), .sc (.string (⟨#[]⟩)), .sc (.bool false), .nl, .sc (.int .i64 0), .sc (.bool false), .nl, .nl, .nl]) s267 Nk (Ac rfl) rfl (A9 rfl) rfl fun H s268 => Ae s268 A1 rfl (Ae s268 (.here) rfl ?_)))))))
  refine Dn (Dt s268 rfl (.agg ⟨_, rfl, rfl⟩ (.sc (.own Cq (.own E2 .nil))) (.agg ⟨_, rfl, rfl⟩ (G6 (.nl (G6 (.nl (Mk (.nl (.sc (.sc (.nl (.nl (.nl .nil))))))))))) (.sc .nil))) ⟨(Er ⟨_, rfl, rfl⟩ ⟨trivial, ⟨(At (Cm (x0.fFl.take i.toNat ++ x0.fFl.drop (i.toNat + 1))) (by decide)), ⟨(At (Ef x0.fQ) (by decide)), trivial⟩⟩⟩), ⟨(Er ⟨_, rfl, rfl⟩ (G7 ⟨Dp, (G7 ⟨Dp, (Mi ⟨Dp, (K4 ⟨Dp, ⟨Dp, ⟨Dp, trivial⟩⟩⟩)⟩)⟩)⟩)), ⟨trivial, trivial⟩⟩⟩) ?_
  have e : Db kd d x0 pre (y :: t) = ((⟨x0.fLast, (x0.fFl.take i.toNat ++ x0.fFl.drop (i.toNat + 1)), x0.fQ⟩ : A7), Ho, true) := by
   clear s0 s202 s203 s259 s261 s263 s265 s266 s267 s268
   try simp only [F4] at h13 h204 h205 h257 h258
   try rw [show x0.fFl.take i.toNat ++ x0.fFl.drop (i.toNat + 1) = pre ++ t from by rw [he, hi]; simp]
   try rw [show x0.fFl.set (i).toNat ({ y with fSt := 3 } : Ad) = pre ++ ({ y with fSt := 3 } : Ad) :: t from by rw [he, hi]; simp]
   rw [Db]
   (repeat' split) <;> first | rfl | (exfalso; omega)
  ·rw [e]
   first | done | rfl
  refine Bt h258 (Bp (Af ((decide (kd = 5))) (fun h269 => ?_) fun h269 => ?_))
  refine A6 h269 (Am (o' := 5) rfl (A6 h269 (A0 (c := si y.fSt) s203 (.here) rfl (A6 h269 (Mv (G8 h269 (Af ((decide (y.fSt = 1))) (fun h270 => ?_) fun h270 => ?_)))))))
  refine Bt (nF h270) (Gx (by omega) (by omega) ?_)
  have e271 : Db kd d x0 pre (y :: t) = Db kd d x0 (pre ++ [y]) t := by
   clear s0 s202 s203
   try simp only [bne_iff_ne, beq_iff_eq, beq_eq_false_iff_ne, F4] at h13 h204 h205 h257 h258 h269 h270
   rw [Db]; (repeat' split) <;> first | rfl | (exfalso; omega)
  rw [e271]
  exact Gh n hn x0 kd d b0 h13  t (pre ++ [y]) m _ i10 i5 i3 i1 x8 x7 _ (by rw [he]; simp) (by rw [hi]; simp) (by simpa using hm) lx8 lx7 (by simpa only [za5, zau, zbs] using (s203.sel (.cons A1 (.cons A1 (.cons A1 (.cons A1 (.cons A1 (.cons A1 .nil))))))))
  refine Ci (nT h270) (Am (o' := 1) rfl (A0 (c := x7) s203 A1 rfl ?_))
  have he272 : (x0.fFl)[(i).toNat]? = some y := by rw [he, hi]; simp
  refine Ik (y := y) (y' := ({ y with fSt := 3 } : Ad)) (k := 5) (v := (.int .i64 y.fSt)) s203 ⟨_, _, rfl, rfl, rfl, rfl⟩ Cq (by omega) he272 A5 (by omega) rfl rfl rfl fun H s273 => Ae s273 Bu rfl ?_
  have c274 := Pe (n + 8) (by omega) d
  refine Gl s273 rfl (Hz .nil) (c274) ⟨_, rfl, rfl⟩ (Eh _) ?_
  rintro _ _ H ⟨x275, x276, x277, x278, x279, x280, lx275, lx276, lx277, lx278, lx279, lx280, rfl, rfl⟩ s281
  simp only [zah, zar] at s281
  refine Bg (cs' := [si x0.fLast, x7, x8]) s281 Of (Ac (Aa rfl (Aa lx7 (Aa lx8 rfl)))) rfl (A9 rfl) rfl fun H s282 => Bg (cs' := [si ((Al d).fType), .sc (.bool (Al d).fDup), si ((Al d).fQos), .sc (.bool (Al d).fRetain), si ((Al d).fId), ss ((Al d).fTopic), x275, ss ((Al d).fClient), si ((Al d).fLevel), .sc (.bool (Al d).fClean), si ((Al d).fKeep), .sc (.bool (Al d).fHasWill), ss ((Al d).fWTopic), x276, si ((Al d).fWQos), .sc (.bool (Al d).fWRetain), .sc (.bool (Al d).fHasUser), ss ((Al d).fUser), .sc (.bool (Al d).fHasPass), x277, si ((Al d).fCode), .sc (.bool (Al d).fPresent), x278, x279, x280]) s282 Of (Ac (Aa rfl (Aa rfl (Aa rfl (Aa rfl (Aa rfl (Aa rfl (Aa lx275 (Aa rfl (Aa rfl (Aa rfl (Aa rfl (Aa rfl (Aa rfl (Aa lx276 (Aa rfl (Aa rfl (Aa rfl (Aa rfl (Aa rfl (Aa lx277 (Aa rfl (Aa rfl (Aa lx278 (Aa lx279 (Aa lx280 rfl)))))))))))))))))))))))))) rfl (A9 rfl) rfl fun H s283 => Ae s283 A1 rfl (Ae s283 (.here) rfl ?_)
  refine Dn (Dt s283 rfl (.agg ⟨_, rfl, rfl⟩ (.sc (.own Ya (.own Nn .nil))) (.agg ⟨_, rfl, rfl⟩ (G6 (.own Z8 (G6 (.own X9 (Mk (.own Nk (.sc (.sc (.own E2 (.own Cq (.own Bu .nil))))))))))) (.sc .nil))) ⟨(Er ⟨_, rfl, rfl⟩ ⟨trivial, ⟨(At (Cm (x0.fFl.set (i).toNat ({ y with fSt := 3 } : Ad))) (by decide)), ⟨(At (Ef x0.fQ) (by decide)), trivial⟩⟩⟩), ⟨(Er ⟨_, rfl, rfl⟩ (G7 ⟨(At (Gq ((Al d).fBody)) (by decide)), (G7 ⟨(At (Gq ((Al d).fWBody)) (by decide)), (Mi ⟨(At (Gq ((Al d).fPass)) (by decide)), (K4 ⟨(At (Im ((Al d).fWants)) (by decide)), ⟨(At (S0 ((Al d).fNames)) (by decide)), ⟨(At (Sz ((Al d).fCodes)) (by decide)), trivial⟩⟩⟩)⟩)⟩)⟩)), ⟨trivial, trivial⟩⟩⟩) ?_
  have e : Db kd d x0 pre (y :: t) = ((⟨x0.fLast, (x0.fFl.set (i).toNat ({ y with fSt := 3 } : Ad)), x0.fQ⟩ : A7), (Al d), true) := by
   clear s0 s202 s203 s273 s281 s282 s283
   try simp only [F4] at h13 h204 h205 h257 h258 h269 h270
   try rw [show x0.fFl.take i.toNat ++ x0.fFl.drop (i.toNat + 1) = pre ++ t from by rw [he, hi]; simp]
   try rw [show x0.fFl.set (i).toNat ({ y with fSt := 3 } : Ad) = pre ++ ({ y with fSt := 3 } : Ad) :: t from by rw [he, hi]; simp]
   rw [Db]
   (repeat' split) <;> first | rfl | (exfalso; omega)
  ·rw [e]
   first | done | rfl
  refine Dx h269 (Dx h269 (Dx h269 (F3 h269 (Bt rfl (Gx (by omega) (by omega) ?_)))))
  have e284 : Db kd d x0 pre (y :: t) = Db kd d x0 (pre ++ [y]) t := by
   clear s0 s202 s203
   try simp only [bne_iff_ne, beq_iff_eq, beq_eq_false_iff_ne, F4] at h13 h204 h205 h257 h258 h269
   rw [Db]; (repeat' split) <;> first | rfl | (exfalso; omega)
  rw [e284]
  exact Gh n hn x0 kd d b0 h13  t (pre ++ [y]) m _ i10 i5 i3 i1 x8 x7 _ (by rw [he]; simp) (by rw [hi]; simp) (by simpa using hm) lx8 lx7 (by simpa only [za5, zau, zbs] using (s203.sel (.cons A1 (.cons A1 (.cons A1 (.cons A1 (.cons A1 (.cons A1 .nil))))))))
  refine Dx h257 (Dx h257 (Dx h257 (A6 rfl (F3 h257 (F3 rfl (Bt rfl (Bp (Af ((decide (kd = 5))) (fun h285 => ?_) fun h285 => ?_))))))))
  refine A6 h285 (Am (o' := 5) rfl (A6 h285 (A0 (c := si y.fSt) s203 (.here) rfl (A6 h285 (Mv (G8 h285 (Af ((decide (y.fSt = 1))) (fun h286 => ?_) fun h286 => ?_)))))))
  refine Bt (nF h286) (Gx (by omega) (by omega) ?_)
  have e287 : Db kd d x0 pre (y :: t) = Db kd d x0 (pre ++ [y]) t := by
   clear s0 s202 s203
   try simp only [bne_iff_ne, beq_iff_eq, beq_eq_false_iff_ne, F4] at h13 h204 h205 h257 h285 h286
   rw [Db]; (repeat' split) <;> first | rfl | (exfalso; omega)
  rw [e287]
  exact Gh n hn x0 kd d b0 h13  t (pre ++ [y]) m _ i10 i5 i3 i1 x8 x7 _ (by rw [he]; simp) (by rw [hi]; simp) (by simpa using hm) lx8 lx7 (by simpa only [za5, zau, zbs] using (s203.sel (.cons A1 (.cons A1 (.cons A1 (.cons A1 (.cons A1 (.cons A1 .nil))))))))
  refine Ci (nT h286) (Am (o' := 1) rfl (A0 (c := x7) s203 A1 rfl ?_))
  have he288 : (x0.fFl)[(i).toNat]? = some y := by rw [he, hi]; simp
  refine Ik (y := y) (y' := ({ y with fSt := 3 } : Ad)) (k := 5) (v := (.int .i64 y.fSt)) s203 ⟨_, _, rfl, rfl, rfl, rfl⟩ Cq (by omega) he288 A5 (by omega) rfl rfl rfl fun H s289 => Ae s289 Bu rfl ?_
  have c290 := Pe (n + 8) (by omega) d
  refine Gl s289 rfl (Hz .nil) (c290) ⟨_, rfl, rfl⟩ (Eh _) ?_
  rintro _ _ H ⟨x291, x292, x293, x294, x295, x296, lx291, lx292, lx293, lx294, lx295, lx296, rfl, rfl⟩ s297
  simp only [zah, zar] at s297
  refine Bg (cs' := [si x0.fLast, x7, x8]) s297 Of (Ac (Aa rfl (Aa lx7 (Aa lx8 rfl)))) rfl (A9 rfl) rfl fun H s298 => Bg (cs' := [si ((Al d).fType), .sc (.bool (Al d).fDup), si ((Al d).fQos), .sc (.bool (Al d).fRetain), si ((Al d).fId), ss ((Al d).fTopic), x291, ss ((Al d).fClient), si ((Al d).fLevel), .sc (.bool (Al d).fClean), si ((Al d).fKeep), .sc (.bool (Al d).fHasWill), ss ((Al d).fWTopic), x292, si ((Al d).fWQos), .sc (.bool (Al d).fWRetain), .sc (.bool (Al d).fHasUser), ss ((Al d).fUser), .sc (.bool (Al d).fHasPass), x293, si ((Al d).fCode), .sc (.bool (Al d).fPresent), x294, x295, x296]) s298 Of (Ac (Aa rfl (Aa rfl (Aa rfl (Aa rfl (Aa rfl (Aa rfl (Aa lx291 (Aa rfl (Aa rfl (Aa rfl (Aa rfl (Aa rfl (Aa rfl (Aa lx292 (Aa rfl (Aa rfl (Aa rfl (Aa rfl (Aa rfl (Aa lx293 (Aa rfl (Aa rfl (Aa lx294 (Aa lx295 (Aa lx296 rfl)))))))))))))))))))))))))) rfl (A9 rfl) rfl fun H s299 => Ae s299 A1 rfl (Ae s299 (.here) rfl ?_)
  refine Dn (Dt s299 rfl (.agg ⟨_, rfl, rfl⟩ (.sc (.own Ya (.own Nn .nil))) (.agg ⟨_, rfl, rfl⟩ (G6 (.own Z8 (G6 (.own X9 (Mk (.own Nk (.sc (.sc (.own E2 (.own Cq (.own Bu .nil))))))))))) (.sc .nil))) ⟨(Er ⟨_, rfl, rfl⟩ ⟨trivial, ⟨(At (Cm (x0.fFl.set (i).toNat ({ y with fSt := 3 } : Ad))) (by decide)), ⟨(At (Ef x0.fQ) (by decide)), trivial⟩⟩⟩), ⟨(Er ⟨_, rfl, rfl⟩ (G7 ⟨(At (Gq ((Al d).fBody)) (by decide)), (G7 ⟨(At (Gq ((Al d).fWBody)) (by decide)), (Mi ⟨(At (Gq ((Al d).fPass)) (by decide)), (K4 ⟨(At (Im ((Al d).fWants)) (by decide)), ⟨(At (S0 ((Al d).fNames)) (by decide)), ⟨(At (Sz ((Al d).fCodes)) (by decide)), trivial⟩⟩⟩)⟩)⟩)⟩)), ⟨trivial, trivial⟩⟩⟩) ?_
  have e : Db kd d x0 pre (y :: t) = ((⟨x0.fLast, (x0.fFl.set (i).toNat ({ y with fSt := 3 } : Ad)), x0.fQ⟩ : A7), (Al d), true) := by
   clear s0 s202 s203 s289 s297 s298 s299
   try simp only [F4] at h13 h204 h205 h257 h285 h286
   try rw [show x0.fFl.take i.toNat ++ x0.fFl.drop (i.toNat + 1) = pre ++ t from by rw [he, hi]; simp]
   try rw [show x0.fFl.set (i).toNat ({ y with fSt := 3 } : Ad) = pre ++ ({ y with fSt := 3 } : Ad) :: t from by rw [he, hi]; simp]
   rw [Db]
   (repeat' split) <;> first | rfl | (exfalso; omega)
  ·rw [e]
   first | done | rfl
  refine Dx h285 (Dx h285 (Dx h285 (F3 h285 (Bt rfl (Gx (by omega) (by omega) ?_)))))
  have e300 : Db kd d x0 pre (y :: t) = Db kd d x0 (pre ++ [y]) t := by
   clear s0 s202 s203
   try simp only [bne_iff_ne, beq_iff_eq, beq_eq_false_iff_ne, F4] at h13 h204 h205 h257 h285
   rw [Db]; (repeat' split) <;> first | rfl | (exfalso; omega)
  rw [e300]
  exact Gh n hn x0 kd d b0 h13  t (pre ++ [y]) m _ i10 i5 i3 i1 x8 x7 _ (by rw [he]; simp) (by rw [hi]; simp) (by simpa using hm) lx8 lx7 (by simpa only [za5, zau, zbs] using (s203.sel (.cons A1 (.cons A1 (.cons A1 (.cons A1 (.cons A1 (.cons A1 .nil))))))))
  refine Ci (nT h204) (Gx (by omega) (by omega) ?_)
  have e301 : Db kd d x0 pre (y :: t) = Db kd d x0 (pre ++ [y]) t := by
   clear s0 s202 s203
   try simp only [bne_iff_ne, beq_iff_eq, beq_eq_false_iff_ne, F4] at h13 h204
   rw [Db]; (repeat' split) <;> first | rfl | (exfalso; omega)
  rw [e301]
  exact Gh n hn x0 kd d b0 h13  t (pre ++ [y]) m _ i10 i5 i3 i1 x8 x7 _ (by rw [he]; simp) (by rw [hi]; simp) (by simpa using hm) lx8 lx7 (by simpa only [za5, zau, zbs] using (s203.sel (.cons A1 (.cons A1 (.cons A1 (.cons A1 (.cons A1 (.cons A1 .nil))))))))
theorem Xv (n : Nat) (hn : 1048576 < n) (x0 : A7) (kd : Int) (d : Int) (b0 : Fj x0 ≤ 1048576) : Cs E0 (n + 13) 45 16 [.agg (Bf x0), .sc (.int .i64 kd), .sc (.int .i64 d)] = some (.tup [.agg (Bf (D6 x0 kd d).1), .agg (Bd (D6 x0 kd d).2.1), .sc (.bool (D6 x0 kd d).2.2)]) := by
 rw [Bb, Aht, f16]
 refine G0 (G := (· = some (.tup [.agg (Bf (D6 x0 kd d).1), .agg (Bd (D6 x0 kd d).2.1), .sc (.bool (D6 x0 kd d).2.2)]))) ?_
 have hfl := Q5 x0 b0
 try simp only [Qg, Qf]
 have s0 : Sep [] [] := Gz
 refine Ms s0 (F8 (H4 _)) fun i1 H s2 => Dc s2 fun i3 H s4 => Dc s4 fun i5 H s6 => Ae s6 Bu rfl (Gl s6 rfl (.aggF (H4 _) .nil) (Sm (n + 8) (by omega) x0 (AjL x0 b0)) ⟨_, rfl, rfl⟩ (J7 _) ?_)
 rintro _ _ H ⟨x7, x8, lx7, lx8, rfl, rfl⟩ s9
 simp only [zah, zar] at s9
 refine Dc s9 fun i10 H s11 => Bg (cs' := [si x0.fLast, x7, x8]) s11 (.here) (Ac (Aa rfl (Aa lx7 (Aa lx8 rfl)))) rfl (A9 rfl) rfl fun H s12 => Ae s12 Nk rfl (Co (v := (.bool (C9 x0))) s12 rfl (.aggF (H4 _) .nil) (Pd (n + 2) (by omega) _ x0 b0) (He (Af ((C9 x0)) (fun h13 => ?_) fun h13 => ?_)))
 refine Bt (nF h13) ?_
 have hv : D6 x0 kd d = Db kd d x0 [] x0.fFl := by unfold D6; rw [if_pos h13]
 rw [hv]
 exact Gh n hn x0 kd d b0 h13  x0.fFl [] _ 0 i10 i5 i3 i1 x8 x7 _ rfl rfl (by omega) lx8 lx7 s12
 refine Ci (nT h13) (Ae s12 (.here) rfl (Bk (cs := Hl) rfl (Bg (cs' := [si x0.fLast, x7, x8]) s12 E2 (Ac (Aa rfl (Aa lx7 (Aa lx8 rfl)))) rfl (A9 rfl) rfl fun H s14 => Bg (cs' := Hl) s14 E2 (Ac rfl) rfl (A9 rfl) rfl fun H s15 => Ae s15 A1 rfl (Ae s15 (.here) rfl (Dn (Dt s15 rfl (.agg ⟨_, rfl, rfl⟩ (.sc (.own E2 (.own Cq .nil))) (.agg ⟨_, rfl, rfl⟩ (G6 (.nl (G6 (.nl (Mk (.nl (.sc (.sc (.nl (.nl (.nl .nil))))))))))) (.sc .nil))) ⟨(Er ⟨_, rfl, rfl⟩ ⟨trivial, ⟨(At (Cm x0.fFl) (by decide)), ⟨(At (Ef x0.fQ) (by decide)), trivial⟩⟩⟩), ⟨(Er ⟨_, rfl, rfl⟩ (G7 ⟨Dp, (G7 ⟨Dp, (Mi ⟨Dp, (K4 ⟨Dp, ⟨Dp, ⟨Dp, trivial⟩⟩⟩)⟩)⟩)⟩)), ⟨trivial, trivial⟩⟩⟩) ?_)))))
 have e : D6 x0 kd d = ((⟨x0.fLast, x0.fFl, x0.fQ⟩ : A7), Ho, false) := by
  try simp only [F4] at h13
  unfold D6; simp only [h13, if_true, if_false, zal]
 ·rw [e]
  first | done | rfl
theorem Aa5 (p : Ad → Bool) : ∀ (l : List Ad) (i : Nat), C5 p l i < ((i + l.length : Nat) : Int)
 | [], i => by simp only [C5]; omega
 | x :: l, i => by
  rw [C5]
  split
  simp only [zav]; omega
  have := Aa5 p l (i + 1)
  simp only [zav]
  omega
theorem Ug (p : Ad → Bool) : ∀ (l : List Ad) (i : Nat), (C5 p l i = -1 ∧ l.any p = false) ∨ ∃ pre x r, l = pre ++ x :: r ∧ p x = true ∧ pre.any p = false ∧ C5 p l i = ((i + pre.length : Nat) : Int)
 | [], i => .inl ⟨rfl, rfl⟩
 | x :: l, i => by
  rw [C5, zbg]
  cases hx : p x
  rcases Ug p l (i + 1) with ⟨h1, h2⟩ | ⟨pre, y, r, rfl, h2, h3, h4⟩
  exact .inl ⟨by simpa using h1, by simpa using h2⟩
  refine .inr ⟨x :: pre, y, r, rfl, h2, by rw [zbg, hx, h3]; rfl, ?_⟩
  rw [if_neg (by decide), h4, zav]
  congr 1
  omega
  exact .inr ⟨[], x, l, rfl, hx, rfl, by simp⟩
theorem Aa0 : ∀ (r P : List Ad) (x : Ad), x ∈ P → Pw P r = true → (r.any fun y => y.fId == x.fId) = false
 | [], _, _, _, _ => rfl
 | y :: r, P, x, hx, h => by
  rw [Pw, zai] at h
  rw [zbg, Aa0 r (P ++ [y]) x (zas _ hx) h.2, Bool.or_false]
  cases hy : (y.fId == x.fId)
  rfl
  exfalso
  have h1 := h.1
  simp only [zai, Bool.not_eq_true'] at h1
  have h2 : Ir P y = false := h1.2
  unfold Ir at h2
  rw [List.any_eq_false] at h2
  exact h2 x hx (by rw [beq_iff_eq] at hy ⊢; exact hy.symm)
theorem Ub : ∀ (pre P r : List Ad) (x : Ad), Pw P (pre ++ x :: r) = true → (r.any fun y => y.fId == x.fId) = false
 | [], P, r, x, h => by
  rw [zah, Pw, zai] at h
  exact Aa0 r (P ++ [x]) x (zap _ (zb6.2 rfl)) h.2
 | y :: pre, P, r, x, h => by
  rw [zar, Pw, zai] at h
  exact Ub pre (P ++ [y]) r x h.2
theorem Nx (kd id : Int) (o : A7) : ∀ (t pre : List Ad), (t.any fun y => y.fId == id) = false → Db kd id o pre t = (o, Ho, false)
 | [], _, _ => rfl
 | f :: t, pre, h => by
  rw [zbg, zbE] at h
  rw [Db, if_neg (by simpa using h.1)]
  exact Nx kd id o t (pre ++ [f]) h.2
theorem Rh (kd id : Int) (o : A7) : ∀ (p t pre : List Ad), (p.any fun y => y.fId == id) = false → Db kd id o pre (p ++ t) = Db kd id o (pre ++ p) t
 | [], t, pre, _ => by rw [zah, zan]
 | f :: p, t, pre, h => by
  rw [zbg, zbE] at h
  rw [zar, Db, if_neg (by simpa using h.1), Rh kd id o p t (pre ++ [f]) h.2, zaj]
  rfl
def It (o : A7) (kd id : Int) : A7 × Az × Bool :=
 if C9 o then (if C5 (fun y : Ad => y.fId == id) o.fFl 0 < 0 then (o, Ho, false) else
  match o.fFl[(C5 (fun y : Ad => y.fId == id) o.fFl 0).toNat]? with
  | some f => if (kd = 4 ∧ f.fSt = 1) ∨ (kd = 7 ∧ f.fSt = 3) then ({ o with fFl := o.fFl.take (C5 (fun y : Ad => y.fId == id) o.fFl 0).toNat ++ o.fFl.drop ((C5 (fun y : Ad => y.fId == id) o.fFl 0).toNat + 1) }, Ho, true)
   else if kd = 5 ∧ ¬ f.fSt = 1 then ({ o with fFl := o.fFl.set (C5 (fun y : Ad => y.fId == id) o.fFl 0).toNat { f with fSt := 3 } }, Al id, true) else (o, Ho, false)
  | none => (o, Ho, false)) else (o, Ho, false)
theorem E5 (o : A7) (kd id : Int) : It o kd id = D6 o kd id := by
 unfold It D6
 by_cases ho : C9 o = true
 rw [if_pos ho, if_pos ho]
 have hg : Pw [] o.fFl = true := by
  unfold C9 at ho
  rw [zai] at ho
  exact ho.1
 rcases Ug (fun y : Ad => y.fId == id) o.fFl 0 with ⟨h1, h2⟩ | ⟨pre, x, r, h1, h2, h3, h4⟩
 rw [if_pos (by omega), Nx kd id o _ _ h2]
 rw [if_neg (by omega), h4]
 have h5 : ((0 + pre.length : Nat) : Int).toNat = pre.length := by omega
 have hid : x.fId = id := by simpa using h2
 have h6 : o.fFl[pre.length]? = some x := by rw [h1]; simp
 have h7 : o.fFl.take pre.length = pre := by rw [h1]; simp
 have h8 : o.fFl.drop (pre.length + 1) = r := by rw [h1]; simp
 have h9 : o.fFl.set pre.length { x with fSt := 3 } = pre ++ { x with fSt := 3 } :: r := by rw [h1]; simp
 rw [h5, h6, h7, h8]
 simp only [h9]
 have hu := Ub pre [] r x (h1 ▸ hg)
 rw [hid] at hu
 rw [h1, Rh kd id o pre (x :: r) [] h3, zah, Db, if_pos hid, Nx kd id o r (pre ++ [x]) hu]
 rw [if_neg ho, if_neg ho]
theorem Aep (n : Nat) (hn : 1048576 < n) (x0 : A7) (kd : Int) (d : Int) (b0 : Fj x0 ≤ 1048576) : Cs E0 (n + 13) 45 15 [.agg (Bf x0), .sc (.int .i64 kd), .sc (.int .i64 d)] = some (.tup [.agg (Bf (D6 x0 kd d).1), .agg (Bd (D6 x0 kd d).2.1), .sc (.bool (D6 x0 kd d).2.2)]) := by
 rw [Bb, Ahs, f15]
 refine G0 (G := (· = some (.tup [.agg (Bf (D6 x0 kd d).1), .agg (Bd (D6 x0 kd d).2.1), .sc (.bool (D6 x0 kd d).2.2)]))) ?_
 have hfl := Q5 x0 b0
 have hix := Aa5 (fun y : Ad => y.fId == d) x0.fFl 0
 try simp only [Qg, Qf]
 have s0 : Sep [] [] := Gz
 refine Ms s0 (F8 (H4 _)) fun i1 H s2 => Dc s2 fun i3 H s4 => Dc s4 fun i5 H s6 => Ae s6 Bu rfl (Gl s6 rfl (.aggF (H4 _) .nil) (Wk (n + 8) (by omega) x0 (AjL x0 b0)) ⟨_, rfl, rfl⟩ (J7 _) ?_)
 rintro _ _ H ⟨x7, x8, lx7, lx8, rfl, rfl⟩ s9
 simp only [zah, zar] at s9
 refine Dc s9 fun i10 H s11 => Bg (cs' := [si x0.fLast, x7, x8]) s11 (.here) (Ac (Aa rfl (Aa lx7 (Aa lx8 rfl)))) rfl (A9 rfl) rfl fun H s12 => Am (o' := 1) rfl (A0 (c := Ai Aq x0.fFl) s12 Nk rfl (Co (v := (.int .i64 (C5 (fun y : Ad => y.fId == d) x0.fFl 0))) s12 rfl (.cons .ro (.cons .sc .nil)) (Uc (n + 9) (by omega) _ x0.fFl d hfl) (Ae s12 Nk rfl (Co (v := (.bool (C9 x0))) s12 rfl (.aggF (H4 _) .nil) (Lb (n + 2) (by omega) _ x0 b0) (He (Af ((C9 x0)) (fun h13 => ?_) fun h13 => ?_))))))
 refine A6 (nF h13) (A6 (nF h13) (Mu (F3 (nF h13) (Af ((decide ((C5 (fun y : Ad => y.fId == d) x0.fFl 0) < 0))) (fun h14 => ?_) fun h14 => ?_))))
 refine Ci h14 (Ae s12 (.here) rfl (Bk (cs := Hl) rfl (Bg (cs' := [si x0.fLast, x7, x8]) s12 E2 (Ac (Aa rfl (Aa lx7 (Aa lx8 rfl)))) rfl (A9 rfl) rfl fun H s15 => Bg (cs' := Hl) s15 E2 (Ac rfl) rfl (A9 rfl) rfl fun H s16 => Ae s16 A1 rfl (Ae s16 (.here) rfl (Dn (Dt s16 rfl (.agg ⟨_, rfl, rfl⟩ (.sc (.own E2 (.own Cq .nil))) (.agg ⟨_, rfl, rfl⟩ (G6 (.nl (G6 (.nl (Mk (.nl (.sc (.sc (.nl (.nl (.nl .nil))))))))))) (.sc .nil))) ⟨(Er ⟨_, rfl, rfl⟩ ⟨trivial, ⟨(At (Cm x0.fFl) (by decide)), ⟨(At (Ef x0.fQ) (by decide)), trivial⟩⟩⟩), ⟨(Er ⟨_, rfl, rfl⟩ (G7 ⟨Dp, (G7 ⟨Dp, (Mi ⟨Dp, (K4 ⟨Dp, ⟨Dp, ⟨Dp, trivial⟩⟩⟩)⟩)⟩)⟩)), ⟨trivial, trivial⟩⟩⟩) ?_)))))
 have e : D6 x0 kd d = ((⟨x0.fLast, x0.fFl, x0.fQ⟩ : A7), Ho, false) := by
  clear s0 s2 s4 s6 s9 s11 s12 s15 s16
  try simp only [F4] at h13 h14
  rw [← E5]; unfold It
  (repeat' split) <;> first | rfl | (exfalso; omega) | (simp_all; done) | (simp_all; omega)
 ·rw [e]
  first | done | rfl
 have hnn : 0 ≤ (C5 (fun y : Ad => y.fId == d) x0.fFl 0) := Int.not_lt.1 (of_decide_eq_false h14)
 refine Bt h14 (Am (o' := 1) rfl (A0 (c := Ai Aq x0.fFl) s12 Nk rfl (AfM A5 (by decide) (by omega) (by first | omega | (simp at *; omega)) fun y17 ry17 hy17 => Aa4 (Aef (c := .sc (.int .i64 y17.fSt)) rfl (Bp (Af ((decide (kd = 4))) (fun h18 => ?_) fun h18 => ?_))))))
 refine A6 h18 (A6 h18 (Bp (G8 h18 (Hw (Af ((decide (y17.fSt = 1))) (fun h19 => ?_) fun h19 => ?_)))))
 refine Ci h19 (Ci h19 (Am (o' := 1) rfl (A0 (c := x7) s12 (.here) rfl (Gx (by omega) (by omega) (Px s12 rfl rfl rfl rfl ⟨_, _, rfl, rfl, rfl, rfl⟩ Bu (by omega) (by omega) A5 Du rfl fun x20 H lx20 s21 => Am (o' := 1) rfl (B0 s21 A1 lx20 rfl fun H s22 => Ae s22 (.here) rfl (Bk (cs := Hl) rfl (Bg (cs' := [si x0.fLast, x20, x8]) s22 E2 (Ac (Aa rfl (Aa lx20 (Aa lx8 rfl)))) rfl (A9 rfl) rfl fun H s23 => Bg (cs' := Hl) s23 E2 (Ac rfl) rfl (A9 rfl) rfl fun H s24 => Ae s24 A1 rfl (Ae s24 (.here) rfl (Dn (Dt s24 rfl (.agg ⟨_, rfl, rfl⟩ (.sc (.own Cq (.own Cq .nil))) (.agg ⟨_, rfl, rfl⟩ (G6 (.nl (G6 (.nl (Mk (.nl (.sc (.sc (.nl (.nl (.nl .nil))))))))))) (.sc .nil))) ⟨(Er ⟨_, rfl, rfl⟩ ⟨trivial, ⟨(At (Cm (x0.fFl.take (C5 (fun y : Ad => y.fId == d) x0.fFl 0).toNat ++ x0.fFl.drop ((C5 (fun y : Ad => y.fId == d) x0.fFl 0).toNat + 1))) (by decide)), ⟨(At (Ef x0.fQ) (by decide)), trivial⟩⟩⟩), ⟨(Er ⟨_, rfl, rfl⟩ (G7 ⟨Dp, (G7 ⟨Dp, (Mi ⟨Dp, (K4 ⟨Dp, ⟨Dp, ⟨Dp, trivial⟩⟩⟩)⟩)⟩)⟩)), ⟨trivial, trivial⟩⟩⟩) ?_))))))))))
 have e : D6 x0 kd d = ((⟨x0.fLast, (x0.fFl.take (C5 (fun y : Ad => y.fId == d) x0.fFl 0).toNat ++ x0.fFl.drop ((C5 (fun y : Ad => y.fId == d) x0.fFl 0).toNat + 1)), x0.fQ⟩ : A7), Ho, true) := by
  clear s0 s2 s4 s6 s9 s11 s12 s21 s22 s23 s24
  try simp only [F4] at h13 h14 h18 h19
  rw [← E5]; unfold It
  (repeat' split) <;> first | rfl | (exfalso; omega) | (simp_all; done) | (simp_all; omega)
 ·rw [e]
  first | done | rfl
 refine Bt h19 (Bp (Af ((decide (kd = 7))) (fun h25 => ?_) fun h25 => ?_))
 refine A6 h25 (A6 h25 (Bp (G8 h25 (Af ((decide (y17.fSt = 3))) (fun h26 => ?_) fun h26 => ?_))))
 refine Ci h26 (Am (o' := 1) rfl (A0 (c := x7) s12 (.here) rfl (Gx (by omega) (by omega) (Px s12 rfl rfl rfl rfl ⟨_, _, rfl, rfl, rfl, rfl⟩ Bu (by omega) (by omega) A5 Du rfl fun x27 H lx27 s28 => Am (o' := 1) rfl (B0 s28 A1 lx27 rfl fun H s29 => Ae s29 (.here) rfl (Bk (cs := Hl) rfl (Bg (cs' := [si x0.fLast, x27, x8]) s29 E2 (Ac (Aa rfl (Aa lx27 (Aa lx8 rfl)))) rfl (A9 rfl) rfl fun H s30 => Bg (cs' := Hl) s30 E2 (Ac rfl) rfl (A9 rfl) rfl fun H s31 => Ae s31 A1 rfl (Ae s31 (.here) rfl (Dn (Dt s31 rfl (.agg ⟨_, rfl, rfl⟩ (.sc (.own Cq (.own Cq .nil))) (.agg ⟨_, rfl, rfl⟩ (G6 (.nl (G6 (.nl (Mk (.nl (.sc (.sc (.nl (.nl (.nl .nil))))))))))) (.sc .nil))) ⟨(Er ⟨_, rfl, rfl⟩ ⟨trivial, ⟨(At (Cm (x0.fFl.take (C5 (fun y : Ad => y.fId == d) x0.fFl 0).toNat ++ x0.fFl.drop ((C5 (fun y : Ad => y.fId == d) x0.fFl 0).toNat + 1))) (by decide)), ⟨(At (Ef x0.fQ) (by decide)), trivial⟩⟩⟩), ⟨(Er ⟨_, rfl, rfl⟩ (G7 ⟨Dp, (G7 ⟨Dp, (Mi ⟨Dp, (K4 ⟨Dp, ⟨Dp, ⟨Dp, trivial⟩⟩⟩)⟩)⟩)⟩)), ⟨trivial, trivial⟩⟩⟩) ?_)))))))))
 have e : D6 x0 kd d = ((⟨x0.fLast, (x0.fFl.take (C5 (fun y : Ad => y.fId == d) x0.fFl 0).toNat ++ x0.fFl.drop ((C5 (fun y : Ad => y.fId == d) x0.fFl 0).toNat + 1)), x0.fQ⟩ : A7), Ho, true) := by
  clear s0 s2 s4 s6 s9 s11 s12 s28 s29 s30 s31
  try simp only [F4] at h13 h14 h18 h19 h25 h26
  rw [← E5]; unfold It
  (repeat' split) <;> first | rfl | (exfalso; omega) | (simp_all; done) | (simp_all; omega)
 ·rw [e]
  first | done | rfl
 refine Bt h26 (Bp (Af ((decide (kd = 5))) (fun h32 => ?_) fun h32 => ?_))
 refine A6 h32 (A6 h32 (Mv (G8 h32 (Ci (nT h19) (Am (o' := 1) rfl (A0 (c := x7) s12 (.here) rfl ?_))))))
 obtain ⟨y34, he33⟩ : ∃ y, (x0.fFl)[((C5 (fun y : Ad => y.fId == d) x0.fFl 0)).toNat]? = some y := ⟨_, zam (by first | omega | (simp at *; omega))⟩
 refine Ik (y := y34) (y' := ({ y34 with fSt := 3 } : Ad)) (k := 5) (v := (.int .i64 y34.fSt)) s12 ⟨_, _, rfl, rfl, rfl, rfl⟩ Bu (by omega) he33 A5 (by omega) rfl rfl rfl fun H s35 => Ae s35 A1 rfl ?_
 have c36 := Mx (n + 8) (by omega) d
 refine Gl s35 rfl (Hz .nil) (c36) ⟨_, rfl, rfl⟩ (Eh _) ?_
 rintro _ _ H ⟨x37, x38, x39, x40, x41, x42, lx37, lx38, lx39, lx40, lx41, lx42, rfl, rfl⟩ s43
 simp only [zah, zar] at s43
 refine Bg (cs' := [si x0.fLast, x7, x8]) s43 Nn (Ac (Aa rfl (Aa lx7 (Aa lx8 rfl)))) rfl (A9 rfl) rfl fun H s44 => Bg (cs' := [si ((Al d).fType), .sc (.bool (Al d).fDup), si ((Al d).fQos), .sc (.bool (Al d).fRetain), si ((Al d).fId), ss ((Al d).fTopic), x37, ss ((Al d).fClient), si ((Al d).fLevel), .sc (.bool (Al d).fClean), si ((Al d).fKeep), .sc (.bool (Al d).fHasWill), ss ((Al d).fWTopic), x38, si ((Al d).fWQos), .sc (.bool (Al d).fWRetain), .sc (.bool (Al d).fHasUser), ss ((Al d).fUser), .sc (.bool (Al d).fHasPass), x39, si ((Al d).fCode), .sc (.bool (Al d).fPresent), x40, x41, x42]) s44 Nn (Ac (Aa rfl (Aa rfl (Aa rfl (Aa rfl (Aa rfl (Aa rfl (Aa lx37 (Aa rfl (Aa rfl (Aa rfl (Aa rfl (Aa rfl (Aa rfl (Aa lx38 (Aa rfl (Aa rfl (Aa rfl (Aa rfl (Aa rfl (Aa lx39 (Aa rfl (Aa rfl (Aa lx40 (Aa lx41 (Aa lx42 rfl)))))))))))))))))))))))))) rfl (A9 rfl) rfl fun H s45 => Ae s45 A1 rfl (Ae s45 (.here) rfl ?_)
 refine Dn (Dt s45 rfl (.agg ⟨_, rfl, rfl⟩ (.sc (.own Ya (.own D7 .nil))) (.agg ⟨_, rfl, rfl⟩ (G6 (.own Z8 (G6 (.own X9 (Mk (.own Nk (.sc (.sc (.own E2 (.own Cq (.own Bu .nil))))))))))) (.sc .nil))) ⟨(Er ⟨_, rfl, rfl⟩ ⟨trivial, ⟨(At (Cm (x0.fFl.set ((C5 (fun y : Ad => y.fId == d) x0.fFl 0)).toNat ({ y34 with fSt := 3 } : Ad))) (by decide)), ⟨(At (Ef x0.fQ) (by decide)), trivial⟩⟩⟩), ⟨(Er ⟨_, rfl, rfl⟩ (G7 ⟨(At (Gq ((Al d).fBody)) (by decide)), (G7 ⟨(At (Gq ((Al d).fWBody)) (by decide)), (Mi ⟨(At (Gq ((Al d).fPass)) (by decide)), (K4 ⟨(At (Im ((Al d).fWants)) (by decide)), ⟨(At (S0 ((Al d).fNames)) (by decide)), ⟨(At (Sz ((Al d).fCodes)) (by decide)), trivial⟩⟩⟩)⟩)⟩)⟩)), ⟨trivial, trivial⟩⟩⟩) ?_
 have e : D6 x0 kd d = ((⟨x0.fLast, (x0.fFl.set ((C5 (fun y : Ad => y.fId == d) x0.fFl 0)).toNat ({ y34 with fSt := 3 } : Ad)), x0.fQ⟩ : A7), (Al d), true) := by
  clear s0 s2 s4 s6 s9 s11 s12 s35 s43 s44 s45
  try simp only [F4] at h13 h14 h18 h19 h25 h26 h32
  rw [← E5]; unfold It
  (repeat' split) <;> first | rfl | (exfalso; omega) | (simp_all; done) | (simp_all; omega)
 ·rw [e]
  first | done | rfl
 refine Dx h32 (Dx h32 (F3 h32 (Bt rfl (Ae s12 (.here) rfl (Bk (cs := Hl) rfl (Bg (cs' := [si x0.fLast, x7, x8]) s12 E2 (Ac (Aa rfl (Aa lx7 (Aa lx8 rfl)))) rfl (A9 rfl) rfl fun H s46 => Bg (cs' := Hl) s46 E2 (Ac rfl) rfl (A9 rfl) rfl fun H s47 => Ae s47 A1 rfl (Ae s47 (.here) rfl (Dn (Dt s47 rfl (.agg ⟨_, rfl, rfl⟩ (.sc (.own E2 (.own Cq .nil))) (.agg ⟨_, rfl, rfl⟩ (G6 (.nl (G6 (.nl (Mk (.nl (.sc (.sc (.nl (.nl (.nl .nil))))))))))) (.sc .nil))) ⟨(Er ⟨_, rfl, rfl⟩ ⟨trivial, ⟨(At (Cm x0.fFl) (by decide)), ⟨(At (Ef x0.fQ) (by decide)), trivial⟩⟩⟩), ⟨(Er ⟨_, rfl, rfl⟩ (G7 ⟨Dp, (G7 ⟨Dp, (Mi ⟨Dp, (K4 ⟨Dp, ⟨Dp, ⟨Dp, trivial⟩⟩⟩)⟩)⟩)⟩)), ⟨trivial, trivial⟩⟩⟩) ?_))))))))
 have e : D6 x0 kd d = ((⟨x0.fLast, x0.fFl, x0.fQ⟩ : A7), Ho, false) := by
  clear s0 s2 s4 s6 s9 s11 s12 s46 s47
  try simp only [F4] at h13 h14 h18 h19 h25 h26 h32
  rw [← E5]; unfold It
  (repeat' split) <;> first | rfl | (exfalso; omega) | (simp_all; done) | (simp_all; omega)
 ·rw [e]
  first | done | rfl
 refine Dx h25 (Dx h25 (F3 h25 (Bt rfl (Bp (Af ((decide (kd = 5))) (fun h48 => ?_) fun h48 => ?_)))))
 refine A6 h48 (A6 h48 (Mv (G8 h48 (Ci (nT h19) (Am (o' := 1) rfl (A0 (c := x7) s12 (.here) rfl ?_))))))
 obtain ⟨y50, he49⟩ : ∃ y, (x0.fFl)[((C5 (fun y : Ad => y.fId == d) x0.fFl 0)).toNat]? = some y := ⟨_, zam (by first | omega | (simp at *; omega))⟩
 refine Ik (y := y50) (y' := ({ y50 with fSt := 3 } : Ad)) (k := 5) (v := (.int .i64 y50.fSt)) s12 ⟨_, _, rfl, rfl, rfl, rfl⟩ Bu (by omega) he49 A5 (by omega) rfl rfl rfl fun H s51 => Ae s51 A1 rfl ?_
 have c52 := Mx (n + 8) (by omega) d
 refine Gl s51 rfl (Hz .nil) (c52) ⟨_, rfl, rfl⟩ (Eh _) ?_
 rintro _ _ H ⟨x53, x54, x55, x56, x57, x58, lx53, lx54, lx55, lx56, lx57, lx58, rfl, rfl⟩ s59
 simp only [zah, zar] at s59
 refine Bg (cs' := [si x0.fLast, x7, x8]) s59 Nn (Ac (Aa rfl (Aa lx7 (Aa lx8 rfl)))) rfl (A9 rfl) rfl fun H s60 => Bg (cs' := [si ((Al d).fType), .sc (.bool (Al d).fDup), si ((Al d).fQos), .sc (.bool (Al d).fRetain), si ((Al d).fId), ss ((Al d).fTopic), x53, ss ((Al d).fClient), si ((Al d).fLevel), .sc (.bool (Al d).fClean), si ((Al d).fKeep), .sc (.bool (Al d).fHasWill), ss ((Al d).fWTopic), x54, si ((Al d).fWQos), .sc (.bool (Al d).fWRetain), .sc (.bool (Al d).fHasUser), ss ((Al d).fUser), .sc (.bool (Al d).fHasPass), x55, si ((Al d).fCode), .sc (.bool (Al d).fPresent), x56, x57, x58]) s60 Nn (Ac (Aa rfl (Aa rfl (Aa rfl (Aa rfl (Aa rfl (Aa rfl (Aa lx53 (Aa rfl (Aa rfl (Aa rfl (Aa rfl (Aa rfl (Aa rfl (Aa lx54 (Aa rfl (Aa rfl (Aa rfl (Aa rfl (Aa rfl (Aa lx55 (Aa rfl (Aa rfl (Aa lx56 (Aa lx57 (Aa lx58 rfl)))))))))))))))))))))))))) rfl (A9 rfl) rfl fun H s61 => Ae s61 A1 rfl (Ae s61 (.here) rfl ?_)
 refine Dn (Dt s61 rfl (.agg ⟨_, rfl, rfl⟩ (.sc (.own Ya (.own D7 .nil))) (.agg ⟨_, rfl, rfl⟩ (G6 (.own Z8 (G6 (.own X9 (Mk (.own Nk (.sc (.sc (.own E2 (.own Cq (.own Bu .nil))))))))))) (.sc .nil))) ⟨(Er ⟨_, rfl, rfl⟩ ⟨trivial, ⟨(At (Cm (x0.fFl.set ((C5 (fun y : Ad => y.fId == d) x0.fFl 0)).toNat ({ y50 with fSt := 3 } : Ad))) (by decide)), ⟨(At (Ef x0.fQ) (by decide)), trivial⟩⟩⟩), ⟨(Er ⟨_, rfl, rfl⟩ (G7 ⟨(At (Gq ((Al d).fBody)) (by decide)), (G7 ⟨(At (Gq ((Al d).fWBody)) (by decide)), (Mi ⟨(At (Gq ((Al d).fPass)) (by decide)), (K4 ⟨(At (Im ((Al d).fWants)) (by decide)), ⟨(At (S0 ((Al d).fNames)) (by decide)), ⟨(At (Sz ((Al d).fCodes)) (by decide)), trivial⟩⟩⟩)⟩)⟩)⟩)), ⟨trivial, trivial⟩⟩⟩) ?_
 have e : D6 x0 kd d = ((⟨x0.fLast, (x0.fFl.set ((C5 (fun y : Ad => y.fId == d) x0.fFl 0)).toNat ({ y50 with fSt := 3 } : Ad)), x0.fQ⟩ : A7), (Al d), true) := by
  clear s0 s2 s4 s6 s9 s11 s12 s51 s59 s60 s61
  try simp only [F4] at h13 h14 h18 h19 h25 h48
  rw [← E5]; unfold It
  (repeat' split) <;> first | rfl | (exfalso; omega) | (simp_all; done) | (simp_all; omega)
 ·rw [e]
  first | done | rfl
 refine Dx h48 (Dx h48 (F3 h48 (Bt rfl (Ae s12 (.here) rfl (Bk (cs := Hl) rfl (Bg (cs' := [si x0.fLast, x7, x8]) s12 E2 (Ac (Aa rfl (Aa lx7 (Aa lx8 rfl)))) rfl (A9 rfl) rfl fun H s62 => Bg (cs' := Hl) s62 E2 (Ac rfl) rfl (A9 rfl) rfl fun H s63 => Ae s63 A1 rfl (Ae s63 (.here) rfl (Dn (Dt s63 rfl (.agg ⟨_, rfl, rfl⟩ (.sc (.own E2 (.own Cq .nil))) (.agg ⟨_, rfl, rfl⟩ (G6 (.nl (G6 (.nl (Mk (.nl (.sc (.sc (.nl (.nl (.nl .nil))))))))))) (.sc .nil))) ⟨(Er ⟨_, rfl, rfl⟩ ⟨trivial, ⟨(At (Cm x0.fFl) (by decide)), ⟨(At (Ef x0.fQ) (by decide)), trivial⟩⟩⟩), ⟨(Er ⟨_, rfl, rfl⟩ (G7 ⟨Dp, (G7 ⟨Dp, (Mi ⟨Dp, (K4 ⟨Dp, ⟨Dp, ⟨Dp, trivial⟩⟩⟩)⟩)⟩)⟩)), ⟨trivial, trivial⟩⟩⟩) ?_))))))))
 have e : D6 x0 kd d = ((⟨x0.fLast, x0.fFl, x0.fQ⟩ : A7), Ho, false) := by
  clear s0 s2 s4 s6 s9 s11 s12 s62 s63
  try simp only [F4] at h13 h14 h18 h19 h25 h48
  rw [← E5]; unfold It
  (repeat' split) <;> first | rfl | (exfalso; omega) | (simp_all; done) | (simp_all; omega)
 ·rw [e]
  first | done | rfl
 refine Dx h18 (Dx h18 (F3 h18 (Hw (Bt rfl (Bp (Af ((decide (kd = 7))) (fun h64 => ?_) fun h64 => ?_))))))
 refine A6 h64 (A6 h64 (Bp (G8 h64 (Af ((decide (y17.fSt = 3))) (fun h65 => ?_) fun h65 => ?_))))
 refine Ci h65 (Am (o' := 1) rfl (A0 (c := x7) s12 (.here) rfl (Gx (by omega) (by omega) (Px s12 rfl rfl rfl rfl ⟨_, _, rfl, rfl, rfl, rfl⟩ Bu (by omega) (by omega) A5 Du rfl fun x66 H lx66 s67 => Am (o' := 1) rfl (B0 s67 A1 lx66 rfl fun H s68 => Ae s68 (.here) rfl (Bk (cs := Hl) rfl (Bg (cs' := [si x0.fLast, x66, x8]) s68 E2 (Ac (Aa rfl (Aa lx66 (Aa lx8 rfl)))) rfl (A9 rfl) rfl fun H s69 => Bg (cs' := Hl) s69 E2 (Ac rfl) rfl (A9 rfl) rfl fun H s70 => Ae s70 A1 rfl (Ae s70 (.here) rfl (Dn (Dt s70 rfl (.agg ⟨_, rfl, rfl⟩ (.sc (.own Cq (.own Cq .nil))) (.agg ⟨_, rfl, rfl⟩ (G6 (.nl (G6 (.nl (Mk (.nl (.sc (.sc (.nl (.nl (.nl .nil))))))))))) (.sc .nil))) ⟨(Er ⟨_, rfl, rfl⟩ ⟨trivial, ⟨(At (Cm (x0.fFl.take (C5 (fun y : Ad => y.fId == d) x0.fFl 0).toNat ++ x0.fFl.drop ((C5 (fun y : Ad => y.fId == d) x0.fFl 0).toNat + 1))) (by decide)), ⟨(At (Ef x0.fQ) (by decide)), trivial⟩⟩⟩), ⟨(Er ⟨_, rfl, rfl⟩ (G7 ⟨Dp, (G7 ⟨Dp, (Mi ⟨Dp, (K4 ⟨Dp, ⟨Dp, ⟨Dp, trivial⟩⟩⟩)⟩)⟩)⟩)), ⟨trivial, trivial⟩⟩⟩) ?_)))))))))
 have e : D6 x0 kd d = ((⟨x0.fLast, (x0.fFl.take (C5 (fun y : Ad => y.fId == d) x0.fFl 0).toNat ++ x0.fFl.drop ((C5 (fun y : Ad => y.fId == d) x0.fFl 0).toNat + 1)), x0.fQ⟩ : A7), Ho, true) := by
  clear s0 s2 s4 s6 s9 s11 s12 s67 s68 s69 s70
  try simp only [F4] at h13 h14 h18 h64 h65
  rw [← E5]; unfold It
  (repeat' split) <;> first | rfl | (exfalso; omega) | (simp_all; done) | (simp_all; omega)
 ·rw [e]
  first | done | rfl
 refine Bt h65 (Bp (Af ((decide (kd = 5))) (fun h71 => ?_) fun h71 => ?_))
 refine A6 h71 (A6 h71 (Mv (G8 h71 (Af ((decide (y17.fSt = 1))) (fun h72 => ?_) fun h72 => ?_))))
 refine Bt (nF h72) (Ae s12 (.here) rfl (Bk (cs := Hl) rfl (Bg (cs' := [si x0.fLast, x7, x8]) s12 E2 (Ac (Aa rfl (Aa lx7 (Aa lx8 rfl)))) rfl (A9 rfl) rfl fun H s73 => Bg (cs' := Hl) s73 E2 (Ac rfl) rfl (A9 rfl) rfl fun H s74 => Ae s74 A1 rfl (Ae s74 (.here) rfl (Dn (Dt s74 rfl (.agg ⟨_, rfl, rfl⟩ (.sc (.own E2 (.own Cq .nil))) (.agg ⟨_, rfl, rfl⟩ (G6 (.nl (G6 (.nl (Mk (.nl (.sc (.sc (.nl (.nl (.nl .nil))))))))))) (.sc .nil))) ⟨(Er ⟨_, rfl, rfl⟩ ⟨trivial, ⟨(At (Cm x0.fFl) (by decide)), ⟨(At (Ef x0.fQ) (by decide)), trivial⟩⟩⟩), ⟨(Er ⟨_, rfl, rfl⟩ (G7 ⟨Dp, (G7 ⟨Dp, (Mi ⟨Dp, (K4 ⟨Dp, ⟨Dp, ⟨Dp, trivial⟩⟩⟩)⟩)⟩)⟩)), ⟨trivial, trivial⟩⟩⟩) ?_)))))
 have e : D6 x0 kd d = ((⟨x0.fLast, x0.fFl, x0.fQ⟩ : A7), Ho, false) := by
  clear s0 s2 s4 s6 s9 s11 s12 s73 s74
  try simp only [F4] at h13 h14 h18 h64 h65 h71 h72
  rw [← E5]; unfold It
  (repeat' split) <;> first | rfl | (exfalso; omega) | (simp_all; done) | (simp_all; omega)
 ·rw [e]
  first | done | rfl
 refine Ci (nT h72) (Am (o' := 1) rfl (A0 (c := x7) s12 (.here) rfl ?_))
 obtain ⟨y76, he75⟩ : ∃ y, (x0.fFl)[((C5 (fun y : Ad => y.fId == d) x0.fFl 0)).toNat]? = some y := ⟨_, zam (by first | omega | (simp at *; omega))⟩
 refine Ik (y := y76) (y' := ({ y76 with fSt := 3 } : Ad)) (k := 5) (v := (.int .i64 y76.fSt)) s12 ⟨_, _, rfl, rfl, rfl, rfl⟩ Bu (by omega) he75 A5 (by omega) rfl rfl rfl fun H s77 => Ae s77 A1 rfl ?_
 have c78 := Mx (n + 8) (by omega) d
 refine Gl s77 rfl (Hz .nil) (c78) ⟨_, rfl, rfl⟩ (Eh _) ?_
 rintro _ _ H ⟨x79, x80, x81, x82, x83, x84, lx79, lx80, lx81, lx82, lx83, lx84, rfl, rfl⟩ s85
 simp only [zah, zar] at s85
 refine Bg (cs' := [si x0.fLast, x7, x8]) s85 Nn (Ac (Aa rfl (Aa lx7 (Aa lx8 rfl)))) rfl (A9 rfl) rfl fun H s86 => Bg (cs' := [si ((Al d).fType), .sc (.bool (Al d).fDup), si ((Al d).fQos), .sc (.bool (Al d).fRetain), si ((Al d).fId), ss ((Al d).fTopic), x79, ss ((Al d).fClient), si ((Al d).fLevel), .sc (.bool (Al d).fClean), si ((Al d).fKeep), .sc (.bool (Al d).fHasWill), ss ((Al d).fWTopic), x80, si ((Al d).fWQos), .sc (.bool (Al d).fWRetain), .sc (.bool (Al d).fHasUser), ss ((Al d).fUser), .sc (.bool (Al d).fHasPass), x81, si ((Al d).fCode), .sc (.bool (Al d).fPresent), x82, x83, x84]) s86 Nn (Ac (Aa rfl (Aa rfl (Aa rfl (Aa rfl (Aa rfl (Aa rfl (Aa lx79 (Aa rfl (Aa rfl (Aa rfl (Aa rfl (Aa rfl (Aa rfl (Aa lx80 (Aa rfl (Aa rfl (Aa rfl (Aa rfl (Aa rfl (Aa lx81 (Aa rfl (Aa rfl (Aa lx82 (Aa lx83 (Aa lx84 rfl)))))))))))))))))))))))))) rfl (A9 rfl) rfl fun H s87 => Ae s87 A1 rfl (Ae s87 (.here) rfl ?_)
 refine Dn (Dt s87 rfl (.agg ⟨_, rfl, rfl⟩ (.sc (.own Ya (.own D7 .nil))) (.agg ⟨_, rfl, rfl⟩ (G6 (.own Z8 (G6 (.own X9 (Mk (.own Nk (.sc (.sc (.own E2 (.own Cq (.own Bu .nil))))))))))) (.sc .nil))) ⟨(Er ⟨_, rfl, rfl⟩ ⟨trivial, ⟨(At (Cm (x0.fFl.set ((C5 (fun y : Ad => y.fId == d) x0.fFl 0)).toNat ({ y76 with fSt := 3 } : Ad))) (by decide)), ⟨(At (Ef x0.fQ) (by decide)), trivial⟩⟩⟩), ⟨(Er ⟨_, rfl, rfl⟩ (G7 ⟨(At (Gq ((Al d).fBody)) (by decide)), (G7 ⟨(At (Gq ((Al d).fWBody)) (by decide)), (Mi ⟨(At (Gq ((Al d).fPass)) (by decide)), (K4 ⟨(At (Im ((Al d).fWants)) (by decide)), ⟨(At (S0 ((Al d).fNames)) (by decide)), ⟨(At (Sz ((Al d).fCodes)) (by decide)), trivial⟩⟩⟩)⟩)⟩)⟩)), ⟨trivial, trivial⟩⟩⟩) ?_
 have e : D6 x0 kd d = ((⟨x0.fLast, (x0.fFl.set ((C5 (fun y : Ad => y.fId == d) x0.fFl 0)).toNat ({ y76 with fSt := 3 } : Ad)), x0.fQ⟩ : A7), (Al d), true) := by
  clear s0 s2 s4 s6 s9 s11 s12 s77 s85 s86 s87
  try simp only [F4] at h13 h14 h18 h64 h65 h71 h72
  rw [← E5]; unfold It
  (repeat' split) <;> first | rfl | (exfalso; omega) | (simp_all; done) | (simp_all; omega)
 ·rw [e]
  first | done | rfl
 refine Dx h71 (Dx h71 (F3 h71 (Bt rfl (Ae s12 (.here) rfl (Bk (cs := Hl) rfl (Bg (cs' := [si x0.fLast, x7, x8]) s12 E2 (Ac (Aa rfl (Aa lx7 (Aa lx8 rfl)))) rfl (A9 rfl) rfl fun H s88 => Bg (cs' := Hl) s88 E2 (Ac rfl) rfl (A9 rfl) rfl fun H s89 => Ae s89 A1 rfl (Ae s89 (.here) rfl (Dn (Dt s89 rfl (.agg ⟨_, rfl, rfl⟩ (.sc (.own E2 (.own Cq .nil))) (.agg ⟨_, rfl, rfl⟩ (G6 (.nl (G6 (.nl (Mk (.nl (.sc (.sc (.nl (.nl (.nl .nil))))))))))) (.sc .nil))) ⟨(Er ⟨_, rfl, rfl⟩ ⟨trivial, ⟨(At (Cm x0.fFl) (by decide)), ⟨(At (Ef x0.fQ) (by decide)), trivial⟩⟩⟩), ⟨(Er ⟨_, rfl, rfl⟩ (G7 ⟨Dp, (G7 ⟨Dp, (Mi ⟨Dp, (K4 ⟨Dp, ⟨Dp, ⟨Dp, trivial⟩⟩⟩)⟩)⟩)⟩)), ⟨trivial, trivial⟩⟩⟩) ?_))))))))
 have e : D6 x0 kd d = ((⟨x0.fLast, x0.fFl, x0.fQ⟩ : A7), Ho, false) := by
  clear s0 s2 s4 s6 s9 s11 s12 s88 s89
  try simp only [F4] at h13 h14 h18 h64 h65 h71
  rw [← E5]; unfold It
  (repeat' split) <;> first | rfl | (exfalso; omega) | (simp_all; done) | (simp_all; omega)
 ·rw [e]
  first | done | rfl
 refine Dx h64 (Dx h64 (F3 h64 (Bt rfl (Bp (Af ((decide (kd = 5))) (fun h90 => ?_) fun h90 => ?_)))))
 refine A6 h90 (A6 h90 (Mv (G8 h90 (Af ((decide (y17.fSt = 1))) (fun h91 => ?_) fun h91 => ?_))))
 refine Bt (nF h91) (Ae s12 (.here) rfl (Bk (cs := Hl) rfl (Bg (cs' := [si x0.fLast, x7, x8]) s12 E2 (Ac (Aa rfl (Aa lx7 (Aa lx8 rfl)))) rfl (A9 rfl) rfl fun H s92 => Bg (cs' := Hl) s92 E2 (Ac rfl) rfl (A9 rfl) rfl fun H s93 => Ae s93 A1 rfl (Ae s93 (.here) rfl (Dn (Dt s93 rfl (.agg ⟨_, rfl, rfl⟩ (.sc (.own E2 (.own Cq .nil))) (.agg ⟨_, rfl, rfl⟩ (G6 (.nl (G6 (.nl (Mk (.nl (.sc (.sc (.nl (.nl (.nl .nil))))))))))) (.sc .nil))) ⟨(Er ⟨_, rfl, rfl⟩ ⟨trivial, ⟨(At (Cm x0.fFl) (by decide)), ⟨(At (Ef x0.fQ) (by decide)), trivial⟩⟩⟩), ⟨(Er ⟨_, rfl, rfl⟩ (G7 ⟨Dp, (G7 ⟨Dp, (Mi ⟨Dp, (K4 ⟨Dp, ⟨Dp, ⟨Dp, trivial⟩⟩⟩)⟩)⟩)⟩)), ⟨trivial, trivial⟩⟩⟩) ?_)))))
 have e : D6 x0 kd d = ((⟨x0.fLast, x0.fFl, x0.fQ⟩ : A7), Ho, false) := by
  clear s0 s2 s4 s6 s9 s11 s12 s92 s93
  try simp only [F4] at h13 h14 h18 h64 h90 h91
  rw [← E5]; unfold It
  (repeat' split) <;> first | rfl | (exfalso; omega) | (simp_all; done) | (simp_all; omega)
 ·rw [e]
  first | done | rfl
 refine Ci (nT h91) (Am (o' := 1) rfl (A0 (c := x7) s12 (.here) rfl ?_))
 obtain ⟨y95, he94⟩ : ∃ y, (x0.fFl)[((C5 (fun y : Ad => y.fId == d) x0.fFl 0)).toNat]? = some y := ⟨_, zam (by first | omega | (simp at *; omega))⟩
 refine Ik (y := y95) (y' := ({ y95 with fSt := 3 } : Ad)) (k := 5) (v := (.int .i64 y95.fSt)) s12 ⟨_, _, rfl, rfl, rfl, rfl⟩ Bu (by omega) he94 A5 (by omega) rfl rfl rfl fun H s96 => Ae s96 A1 rfl ?_
 have c97 := Mx (n + 8) (by omega) d
 refine Gl s96 rfl (Hz .nil) (c97) ⟨_, rfl, rfl⟩ (Eh _) ?_
 rintro _ _ H ⟨x98, x99, x100, x101, x102, x103, lx98, lx99, lx100, lx101, lx102, lx103, rfl, rfl⟩ s104
 simp only [zah, zar] at s104
 refine Bg (cs' := [si x0.fLast, x7, x8]) s104 Nn (Ac (Aa rfl (Aa lx7 (Aa lx8 rfl)))) rfl (A9 rfl) rfl fun H s105 => Bg (cs' := [si ((Al d).fType), .sc (.bool (Al d).fDup), si ((Al d).fQos), .sc (.bool (Al d).fRetain), si ((Al d).fId), ss ((Al d).fTopic), x98, ss ((Al d).fClient), si ((Al d).fLevel), .sc (.bool (Al d).fClean), si ((Al d).fKeep), .sc (.bool (Al d).fHasWill), ss ((Al d).fWTopic), x99, si ((Al d).fWQos), .sc (.bool (Al d).fWRetain), .sc (.bool (Al d).fHasUser), ss ((Al d).fUser), .sc (.bool (Al d).fHasPass), x100, si ((Al d).fCode), .sc (.bool (Al d).fPresent), x101, x102, x103]) s105 Nn (Ac (Aa rfl (Aa rfl (Aa rfl (Aa rfl (Aa rfl (Aa rfl (Aa lx98 (Aa rfl (Aa rfl (Aa rfl (Aa rfl (Aa rfl (Aa rfl (Aa lx99 (Aa rfl (Aa rfl (Aa rfl (Aa rfl (Aa rfl (Aa lx100 (Aa rfl (Aa rfl (Aa lx101 (Aa lx102 (Aa lx103 rfl)))))))))))))))))))))))))) rfl (A9 rfl) rfl fun H s106 => Ae s106 A1 rfl (Ae s106 (.here) rfl ?_)
 refine Dn (Dt s106 rfl (.agg ⟨_, rfl, rfl⟩ (.sc (.own Ya (.own D7 .nil))) (.agg ⟨_, rfl, rfl⟩ (G6 (.own Z8 (G6 (.own X9 (Mk (.own Nk (.sc (.sc (.own E2 (.own Cq (.own Bu .nil))))))))))) (.sc .nil))) ⟨(Er ⟨_, rfl, rfl⟩ ⟨trivial, ⟨(At (Cm (x0.fFl.set ((C5 (fun y : Ad => y.fId == d) x0.fFl 0)).toNat ({ y95 with fSt := 3 } : Ad))) (by decide)), ⟨(At (Ef x0.fQ) (by decide)), trivial⟩⟩⟩), ⟨(Er ⟨_, rfl, rfl⟩ (G7 ⟨(At (Gq ((Al d).fBody)) (by decide)), (G7 ⟨(At (Gq ((Al d).fWBody)) (by decide)), (Mi ⟨(At (Gq ((Al d).fPass)) (by decide)), (K4 ⟨(At (Im ((Al d).fWants)) (by decide)), ⟨(At (S0 ((Al d).fNames)) (by decide)), ⟨(At (Sz ((Al d).fCodes)) (by decide)), trivial⟩⟩⟩)⟩)⟩)⟩)), ⟨trivial, trivial⟩⟩⟩) ?_
 have e : D6 x0 kd d = ((⟨x0.fLast, (x0.fFl.set ((C5 (fun y : Ad => y.fId == d) x0.fFl 0)).toNat ({ y95 with fSt := 3 } : Ad)), x0.fQ⟩ : A7), (Al d), true) := by
  clear s0 s2 s4 s6 s9 s11 s12 s96 s104 s105 s106
  try simp only [F4] at h13 h14 h18 h64 h90 h91
  rw [← E5]; unfold It
  (repeat' split) <;> first | rfl | (exfalso; omega) | (simp_all; done) | (simp_all; omega)
 ·rw [e]
  first | done | rfl
 refine Dx h90 (Dx h90 (F3 h90 (Bt rfl (Ae s12 (.here) rfl (Bk (cs := Hl) rfl (Bg (cs' := [si x0.fLast, x7, x8]) s12 E2 (Ac (Aa rfl (Aa lx7 (Aa lx8 rfl)))) rfl (A9 rfl) rfl fun H s107 => Bg (cs' := Hl) s107 E2 (Ac rfl) rfl (A9 rfl) rfl fun H s108 => Ae s108 A1 rfl (Ae s108 (.here) rfl (Dn (Dt s108 rfl (.agg ⟨_, rfl, rfl⟩ (.sc (.own E2 (.own Cq .nil))) (.agg ⟨_, rfl, rfl⟩ (G6 (.nl (G6 (.nl (Mk (.nl (.sc (.sc (.nl (.nl (.nl .nil))))))))))) (.sc .nil))) ⟨(Er ⟨_, rfl, rfl⟩ ⟨trivial, ⟨(At (Cm x0.fFl) (by decide)), ⟨(At (Ef x0.fQ) (by decide)), trivial⟩⟩⟩), ⟨(Er ⟨_, rfl, rfl⟩ (G7 ⟨Dp, (G7 ⟨Dp, (Mi ⟨Dp, (K4 ⟨Dp, ⟨Dp, ⟨Dp, trivial⟩⟩⟩)⟩)⟩)⟩)), ⟨trivial, trivial⟩⟩⟩) ?_))))))))
 have e : D6 x0 kd d = ((⟨x0.fLast, x0.fFl, x0.fQ⟩ : A7), Ho, false) := by
  clear s0 s2 s4 s6 s9 s11 s12 s107 s108
  try simp only [F4] at h13 h14 h18 h64 h90
  rw [← E5]; unfold It
  (repeat' split) <;> first | rfl | (exfalso; omega) | (simp_all; done) | (simp_all; omega)
 ·rw [e]
  first | done | rfl
 refine Dx (nT h13) (Dx (nT h13) (G8 (nT h13) (Ci rfl (Ae s12 (.here) rfl (Bk (cs := Hl) rfl (Bg (cs' := [si x0.fLast, x7, x8]) s12 E2 (Ac (Aa rfl (Aa lx7 (Aa lx8 rfl)))) rfl (A9 rfl) rfl fun H s109 => Bg (cs' := Hl) s109 E2 (Ac rfl) rfl (A9 rfl) rfl fun H s110 => Ae s110 A1 rfl (Ae s110 (.here) rfl (Dn (Dt s110 rfl (.agg ⟨_, rfl, rfl⟩ (.sc (.own E2 (.own Cq .nil))) (.agg ⟨_, rfl, rfl⟩ (G6 (.nl (G6 (.nl (Mk (.nl (.sc (.sc (.nl (.nl (.nl .nil))))))))))) (.sc .nil))) ⟨(Er ⟨_, rfl, rfl⟩ ⟨trivial, ⟨(At (Cm x0.fFl) (by decide)), ⟨(At (Ef x0.fQ) (by decide)), trivial⟩⟩⟩), ⟨(Er ⟨_, rfl, rfl⟩ (G7 ⟨Dp, (G7 ⟨Dp, (Mi ⟨Dp, (K4 ⟨Dp, ⟨Dp, ⟨Dp, trivial⟩⟩⟩)⟩)⟩)⟩)), ⟨trivial, trivial⟩⟩⟩) ?_))))))))
 have e : D6 x0 kd d = ((⟨x0.fLast, x0.fFl, x0.fQ⟩ : A7), Ho, false) := by
  clear s0 s2 s4 s6 s9 s11 s12 s109 s110
  try simp only [F4] at h13
  rw [← E5]; unfold It
  (repeat' split) <;> first | rfl | (exfalso; omega) | (simp_all; done) | (simp_all; omega)
 ·rw [e]
  first | done | rfl
def Kd (o : A7) (kd id : Int) : Az := (D6 o kd id).2.1
theorem AeY (o : A7) (kd id : Int) : Fw (Kd o kd id) = 0 := by
 unfold Kd
 rw [← E5]
 unfold It
 have h0 : Fw Ho = 0 := rfl
 (repeat' split) <;> first | exact h0 | exact AeR 6 id
end
section
open Go
def G1 (q : List Cd) (m : Cd) : List Cd := if (D9 q && C3 m) = true ∧ q.length < 6 then q ++ [m] else q
def E1 (q : List Cd) (m : Cd) : Int := if (D9 q && C3 m) = true then (if q.length < 6 then 0 else if m.fQos == 0 then 1 else 2) else 2
theorem AaS {ty : Nat} {H : Ab} {ts : List Nat} {raw cells : List AV} {ids : List Nat} (hts : E0.tp ty = some ts) (h : Cg (B4 Ar E0.tp H 7) ts raw = some (cells, ids)) (hn : ids.Nodup) : Ba Ar E0.tp ty H (.tup raw) = some (.tup cells) := by
 rw [Ba, Gb, hts, zab, h, zab, zab, if_pos hn]
theorem Uu {α : Type} {H : Ab} {w tyS : Nat} {cty : List Nat} {enc : α → List AV} (hw : ∀ x, (enc x).length = w) (hty : ∃ i j, Ar tyS = some i ∧ Ar i.elem = some j ∧ j.size = w ∧ j.cty = cty) (hc : cty.length = w) (hok : ∀ x, Es (Gr Ar E0.tp 6) cty (enc x)) (l : List α) :
  OwnS 6 (H ++ (Bn Ar E0.tp H.length tyS (Ai enc l)).2) w cty (Bn Ar E0.tp H.length tyS (Ai enc l)).1 l.length (l.map enc).flatten := by
 obtain ⟨i, j, h1, h2, rfl, rfl⟩ := hty
 have hi : Bn Ar E0.tp H.length tyS (Ai enc l) = (.sl H.length 0 l.length j.size, ⟨(B5 Ar E0.tp (H.length + 1) (zad l.length j.cty).flatten (l.map enc).flatten).1, true, true⟩ :: (B5 Ar E0.tp (H.length + 1) (zad l.length j.cty).flatten (l.map enc).flatten).2) := by
  show Bn Ar E0.tp H.length tyS (.ro l.length (l.map enc).flatten) = _
  simp only [Bn, h1, zab, h2, zaC]
 rw [hi]
 simp only
 generalize hQ : B5 Ar E0.tp (H.length + 1) (zad l.length j.cty).flatten (l.map enc).flatten = Q
 have lQ : Lies (H ++ ⟨Q.1, true, true⟩ :: Q.2) (H.length + 1) Q.2 := by
  have := Jt (H ++ [⟨Q.1, true, true⟩]) Q.2
  rw [zag, zao, zaj] at this
  exact this
 have ho : OwnC 6 (H ++ ⟨Q.1, true, true⟩ :: Q.2) (zad l.length j.cty).flatten Q.1 (l.map enc).flatten (zbk (H.length + 1) Q.2.length) := by
  have := Lg (H := H ++ ⟨Q.1, true, true⟩ :: Q.2) (fun ty t N h h' _ => Gt 6 ty t N h h') (zad l.length j.cty).flatten (l.map enc).flatten (H.length + 1) (Na l fun x _ => hok x) (by rw [hQ]; exact lQ) (Fx _ _ _)
  rw [hQ] at this
  exact this
 refine .inr ⟨H.length, Q.1, _, rfl, Kt _ _ _, by rw [← hQ, M7, Fh hw], ho, ?_⟩
 rw [zaH]
 refine ⟨fun hm => ?_, zbb⟩
 rw [zaQ] at hm
 omega
theorem Tz {H : Ab} {tyT : Nat} {k : Nat} {x : AV} {cells : List AV} {c : Int} (hts : E0.tp tyT = some [25, 3]) (h : OwnS 6 H 4 Hg x k cells) : Ba Ar E0.tp tyT H (.tup [x, .sc (.int .i64 c)]) = some (.tup [.ro k cells, .sc (.int .i64 c)]) := by
 obtain ⟨ids, ho, hno⟩ := Rb (d := 6) (tyS := 25) K2 h
 refine AaS hts (ids := ids) ?_ hno
 simp only [Cg, ho, I8, zab, zan]
theorem Z0 (n : Nat) (hn : 1048576 < n) (x0 : List Cd) (x1 : Cd) (k0 : x0.length ≤ 9223372036854775807 ∧ ∀ z ∈ x0, Cp z) (k1 : Cp x1) (b0 : Fm Bo x0 ≤ 1048576) (b1 : Bo x1 ≤ 1048576) : Cs E0 (n + 8) 90 68 [Ai Aj x0, .agg (Aj x1)] = some (.tup [Ai Aj (G1 x0 x1), .sc (.int .i64 (E1 x0 x1))]) := by
 obtain ⟨hlen, htop⟩ := P6 x0 b0
 have hsm := (Agy U1 Qa x0 b0).2
 have hs : ∀ x ∈ x0, x.fBody.size ≤ 1048576 := fun x hx => (hsm x hx).1
 have hm : x1.fBody.size ≤ 1048576 := (Qa x1 b1).1
 have ht : x1.fTopic.size ≤ 1048576 := by unfold Bo at b1; omega
 rw [Bb, AhM, f68]
 simp only [C8, Fo, B6, Pr.gT, Pr.gF, Pr.hT, Pr.hF, Pr.kT, Pr.kF, Bm, Ce, A2, B7, Bh, B3, Bx, Bv, C6]
 refine Lk (Ff _) fun i e hi => ?_
 rw [F5 (vs := [Ai Aj x0]) rfl (Bq (Ez _ _ _) D1) (Ox (n + 4) (by omega) x0 hlen hs)]
 have hO := Uu (H := [] ++ [⟨Aj x1, true, true⟩]) Ec K2 rfl (Io 4) x0
 replace hi := Jw hi (Bn Ar E0.tp ([] ++ [⟨Aj x1, true, true⟩] : Ab).length 25 (Ai Aj x0)).2
 generalize (Bn Ar E0.tp ([] ++ [⟨Aj x1, true, true⟩] : Ab).length 25 (Ai Aj x0)).1 = y at hO ⊢
 generalize ([] ++ [⟨Aj x1, true, true⟩] ++ (Bn Ar E0.tp ([] ++ [⟨Aj x1, true, true⟩] : Ab).length 25 (Ai Aj x0)).2 : Ab) = G at hO hi ⊢
 refine D0 rfl (Bq (Ez _ _ _) D1) (Tj n hn _ x0 hlen htop) (Hq ?_)
 cases hq : D9 x0
 refine Da rfl (Da rfl (Da rfl (Q3 rfl (Fn rfl ?_))))
 have e1 : G1 x0 x1 = x0 := by simp [G1, hq]
 have e2 : E1 x0 x1 = 2 := by simp [E1, hq]
 rw [e1, e2]
 exact Tz rfl hO
 refine C4 rfl (Su hi (Ec _) (C4 rfl (D0 rfl (Bq (Gi _ (Ff _)) D1) (Tg (n + 1) (by omega) _ x1 ht) (C4 rfl (Hq (Ts rfl ?_))))))
 cases hmk : C3 x1
 refine Fn rfl ?_
 have e1 : G1 x0 x1 = x0 := by simp [G1, hq, hmk]
 have e2 : E1 x0 x1 = 2 := by simp [E1, hq, hmk]
 rw [e1, e2]
 exact Tz rfl hO
 refine Fy rfl (Dq (A4 (v := sb ((x0.length : Int) == 6)) (fun k => rfl) ?_))
 have hl6 : x0.length ≤ 6 := by
  unfold D9 at hq
  simp at hq
  omega
 by_cases h6 : x0.length = 6
 refine Fn (by simp [h6]) (Ah (Bl (c := .sc (.int .i64 x1.fQos)) hi (A9 rfl) rfl (A4 (v := .sc (.bool (x1.fQos == 0))) (fun k => rfl) ?_)))
 have e1 : G1 x0 x1 = x0 := by simp [G1, h6]
 rw [e1]
 cases hz : (x1.fQos == 0)
 refine Fy rfl ?_
 have e2 : E1 x0 x1 = 2 := by simp [E1, h6, hq, hmk, hz]
 rw [e2]
 exact Tz rfl hO
 refine Fn rfl ?_
 have e2 : E1 x0 x1 = 1 := by simp [E1, h6, hq, hmk, hz]
 rw [e2]
 exact Tz rfl hO
 refine Fy (by simp; omega) (Su hi (Ec _) ?_)
 have e1 : G1 x0 x1 = x0 ++ [x1] := by simp [G1, hq, hmk]; omega
 have e2 : E1 x0 x1 = 0 := by simp [E1, hq, hmk]; omega
 rw [e1, e2]
 have hst := fun K h => M3 (β := AV) (n := n + 7) (X0 := []) (bytes := 56) (z := Hs) (K := K) (r := some (.tup [Ai Aj (x0 ++ [x1]), i0])) hO rfl (Bq (Gi _ (Ff x1)) D1) (Q9 (n + 6) x1 hm) Nw (Io 4 x1) (Ff x1) (Ec x1) rfl (by omega) h
 simp only [zan] at hst
 refine hst _ fun x' H' hx' => ?_
 have := Tz (tyT := 90) (c := 0) rfl hx'
 rw [show Ai Aj (x0 ++ [x1]) = .ro (x0.length + 1) ((x0.map Aj).flatten ++ Aj x1) by
  show AV.ro _ _ = _
  simp]
 exact this
theorem Zj (n : Nat) (hn : 1048576 < n) (x0 : List Cd) (x1 : Cd) (k0 : x0.length ≤ 9223372036854775807 ∧ ∀ z ∈ x0, Cp z) (k1 : Cp x1) (b0 : Fm Bo x0 ≤ 1048576) (b1 : Bo x1 ≤ 1048576) : Cs E0 (n + 9) 90 67 [Ai Aj x0, .agg (Aj x1)] = some (.tup [Ai Aj (G1 x0 x1), .sc (.int .i64 (E1 x0 x1))]) := by
 obtain ⟨hlen, htop⟩ := P6 x0 b0
 have hsm := (Agy U1 Qa x0 b0).2
 have hs : ∀ x ∈ x0, x.fBody.size ≤ 1048576 := fun x hx => (hsm x hx).1
 have hm : x1.fBody.size ≤ 1048576 := (Qa x1 b1).1
 have ht : x1.fTopic.size ≤ 1048576 := by unfold Bo at b1; omega
 rw [Bb, AhL, f67]
 simp only [C8, Fo, B6, Pr.gT, Pr.gF, Pr.hT, Pr.hF, Pr.kT, Pr.kF, Bm, Ce, A2, B7, Bh, B3, Bx, Bv, C6]
 refine Lk (Ff _) fun i e hi => ?_
 rw [F5 (vs := [Ai Aj x0]) rfl (Bq (Ez _ _ _) D1) (Pq (n + 5) (by omega) x0 hlen hs)]
 have hO := Uu (H := [] ++ [⟨Aj x1, true, true⟩]) Ec K2 rfl (Io 4) x0
 replace hi := Jw hi (Bn Ar E0.tp ([] ++ [⟨Aj x1, true, true⟩] : Ab).length 25 (Ai Aj x0)).2
 generalize (Bn Ar E0.tp ([] ++ [⟨Aj x1, true, true⟩] : Ab).length 25 (Ai Aj x0)).1 = y at hO ⊢
 generalize ([] ++ [⟨Aj x1, true, true⟩] ++ (Bn Ar E0.tp ([] ++ [⟨Aj x1, true, true⟩] : Ab).length 25 (Ai Aj x0)).2 : Ab) = G at hO hi ⊢
 refine D0 rfl (Bq (Ez _ _ _) D1) (Sh n hn _ x0 hlen htop) (Hq ?_)
 cases hq : D9 x0
 refine Da rfl (Da rfl (Da rfl (Q3 rfl (Fn rfl ?_))))
 have e1 : G1 x0 x1 = x0 := by simp [G1, hq]
 have e2 : E1 x0 x1 = 2 := by simp [E1, hq]
 rw [e1, e2]
 exact Tz rfl hO
 refine C4 rfl (Su hi (Ec _) (C4 rfl (D0 rfl (Bq (Gi _ (Ff _)) D1) (Sf (n + 2) (by omega) _ x1 ht) (C4 rfl (Hq (Ts rfl ?_))))))
 cases hmk : C3 x1
 refine Fn rfl ?_
 have e1 : G1 x0 x1 = x0 := by simp [G1, hq, hmk]
 have e2 : E1 x0 x1 = 2 := by simp [E1, hq, hmk]
 rw [e1, e2]
 exact Tz rfl hO
 refine Fy rfl (Dq (A4 (v := sb (decide ((x0.length : Int) < 6))) (fun k => rfl) ?_))
 by_cases h6 : x0.length < 6
 refine Fn (by simp; omega) (Su hi (Ec _) ?_)
 have e1 : G1 x0 x1 = x0 ++ [x1] := by simp [G1, hq, hmk, h6]
 have e2 : E1 x0 x1 = 0 := by simp [E1, hq, hmk, h6]
 rw [e1, e2]
 have hst := fun K h => M3 (β := AV) (n := n + 8) (X0 := []) (bytes := 56) (z := Hs) (K := K) (r := some (.tup [Ai Aj (x0 ++ [x1]), i0])) hO rfl (Bq (Gi _ (Ff x1)) D1) (Ro (n + 6) (by omega) x1 hm) Nw (Io 4 x1) (Ff x1) (Ec x1) rfl (by omega) h
 simp only [zan] at hst
 refine hst _ fun x' H' hx' => ?_
 have := Tz (tyT := 90) (c := 0) rfl hx'
 rw [show Ai Aj (x0 ++ [x1]) = .ro (x0.length + 1) ((x0.map Aj).flatten ++ Aj x1) by
  show AV.ro _ _ = _
  simp]
 exact this
 refine Fy (by simp; omega) (Ah (Bl (c := .sc (.int .i64 x1.fQos)) hi (A9 rfl) rfl (A4 (v := .sc (.bool (x1.fQos == 0))) (fun k => rfl) ?_)))
 have e1 : G1 x0 x1 = x0 := by simp [G1, h6]
 rw [e1]
 cases hz : (x1.fQos == 0)
 refine Fy rfl ?_
 have e2 : E1 x0 x1 = 2 := by simp [E1, h6, hq, hmk, hz]
 rw [e2]
 exact Tz rfl hO
 refine Fn rfl ?_
 have e2 : E1 x0 x1 = 1 := by simp [E1, h6, hq, hmk, hz]
 rw [e2]
 exact Tz rfl hO
end
section
open Go
theorem Zm {y : AV} (hl : Ap y = true) : Cv y = some [y] := by
 cases y <;> first | (simp [Ap] at hl; done) | (simp only [Cv, hl, if_true]) | rfl
theorem Ac0 {v : Value} {x z : AV} (hv : Ap (.sc v) = true) (hx : Ap x = true) (hz : Ap z = true) : Cv (.agg [.sc v, x, z]) = some [.sc v, x, z] := by
 show (if (Ap (.sc v) && (Ap x && (Ap z && true))) = true then _ else none) = _
 rw [hv, hx, hz]
 rfl
theorem AaH {H : Ab} {i6 : Nat} {o : A7} {q' : List Cd} {x z : AV} {ids1 ids2 : List Nat} {c : Int} (h6 : H[i6]? = some ⟨[.sc (.int .i64 o.fLast), x, z], true, true⟩) (h2 : H[2]? = some ⟨Cn, true, true⟩) (lx : Ap x = true) (lz : Ap z = true)
  (ox : B4 Ar E0.tp H 6 24 x = some (Ai Aq o.fFl, ids1)) (oz : B4 Ar E0.tp H 6 25 z = some (Ai Aj q', ids2)) (hn : (ids1 ++ ids2).Nodup) (n1 : 2 ∉ ids1) (n2 : 2 ∉ ids2) :
  (Ct true 3 (.ptr i6 0) H fun t => Ew 3 (.ptr 2 0) t H fun H => Ct true 3 (.ptr 2 0) H fun r0 => Ba Ar E0.tp 49 H (Cu [r0, si c])) = some (.tup [.agg (Bf { o with fQ := q' }), si c]) := by
 have l2 : 2 < H.length := (zac.1 h2).1
 refine Ks (ds := [si o.fLast, x, z]) h6 (A9 rfl) rfl ?_
 rw [Ip 3 2 0 _ ⟨Cn, true, true⟩ [.sc (.int .i64 o.fLast), x, z] H _ h2 (Ac0 rfl lx lz) rfl (A9 rfl) rfl]
 refine Ks (ds := [.sc (.int .i64 o.fLast), x, z]) (cs := [.sc (.int .i64 o.fLast), x, z]) (by rw [zbf l2]; rfl) (A9 rfl) rfl ?_
 generalize hb : (⟨Cl Cn 0 [si o.fLast, x, z], true, true⟩ : Hf) = b
 have e1 := C7 (H' := H.set 2 b) 6 _ _ _ ox fun i hi => by rw [za1 (fun (e : 2 = i) => n1 (e ▸ hi))]
 have e2 := C7 (H' := H.set 2 b) 6 _ _ _ oz fun i hi => by rw [za1 (fun (e : 2 = i) => n2 (e ▸ hi))]
 obtain ⟨i, hi, hcy⟩ := AeJ
 have e3 : B4 Ar E0.tp (H.set 2 b) 7 27 (.agg [si o.fLast, x, z]) = some (.agg (Bf { o with fQ := q' }), ids1 ++ ids2) := by
  rw [E4, hi, zab, hcy]
  simp only [Rq, Cg, I8, e1, e2, zab, zah, zan]
  rfl
 have e4 : Cg (B4 Ar E0.tp (H.set 2 b) 7) [27, 3] [.agg [si o.fLast, x, z], si c] = some ([.agg (Bf { o with fQ := q' }), si c], ids1 ++ ids2) := by
  simp only [Cg, e3, I8, zab, zan]
 exact AaS rfl e4 hn
theorem Aew (N : Nat) (o : A7) : B5 Ar E0.tp N Rq (Bf o) = ([.sc (.int .i64 o.fLast), (Bn Ar E0.tp N 24 (Ai Aq o.fFl)).1, (Bn Ar E0.tp (N + (Bn Ar E0.tp N 24 (Ai Aq o.fFl)).2.length) 25 (Ai Aj o.fQ)).1], (Bn Ar E0.tp N 24 (Ai Aq o.fFl)).2 ++ (Bn Ar E0.tp (N + (Bn Ar E0.tp N 24 (Ai Aq o.fFl)).2.length) 25 (Ai Aj o.fQ)).2) := by
 show B5 Ar E0.tp N [3, 24, 25] [.sc (.int .i64 o.fLast), Ai Aq o.fFl, Ai Aj o.fQ] = _
 simp only [B5, zbB, zbG, Hm, zay, zbd, zah, zan]
theorem AbT (N : Nat) (q : List Cd) (c : Int) : Bn Ar E0.tp N 90 (.tup [Ai Aj q, .sc (.int .i64 c)]) = (.tup [(Bn Ar E0.tp N 25 (Ai Aj q)).1, .sc (.int .i64 c)], (Bn Ar E0.tp N 25 (Ai Aj q)).2) := by
 rw [Py, show E0.tp 90 = some [25, 3] from rfl, zaC]
 simp only [B5, zbB, zbG, Hm, zan]
theorem Ld {α : Type} (N ty : Nat) (enc : α → List AV) (l : List α) : Ap (Bn Ar E0.tp N ty (Ai enc l)).1 = true := rfl
theorem Agk {n gC : Nat} {o : A7} {m : Cd} {K : AV → AV → AV → AV → Ab → Option AV} {r : Option AV} (hC : Gc gC = false) (tC : Cs E0 n 27 gC [.agg (Bf o)] = some (.agg (Bf o)))
  (h : ∀ (X Q : AV × List Hf), Bn Ar E0.tp 3 24 (Ai Aq o.fFl) = X → Bn Ar E0.tp (3 + X.2.length) 25 (Ai Aj o.fQ) = Q → K (.ptr 0 0) (.ptr 1 0) (.ptr 2 0) (.ptr (3 + (X.2.length + Q.2.length)) 0) ([⟨Bf o, true, true⟩, ⟨Aj m, true, true⟩, ⟨Cn, true, true⟩] ++ (X.2 ++ Q.2) ++ [⟨[si o.fLast, X.1, Q.1], true, true⟩]) = r) :
  (O6 (.agg (Bf o)) [] fun t2 H => O6 (.agg (Aj m)) H fun t3 H => L8 [i0, .nl, .nl] H fun t4 H => Ct true 3 t2 H fun t9 => (PR n AV).call 27 (.fn gC [] []) [t9] H fun t10 H => L8 [i0, .nl, .nl] H fun t6 H => Ew 3 t6 t10 H fun H => K t2 t3 t4 t6 H) = r := by
 rw [Ny _ _ _ (H4 o), Ny _ _ _ (Ff m)]
 simp only [L8, zay, zah, zav, zaw, zag, zar]
 refine Ks (ds := Bf o) (cs := Bf o) rfl (A9 rfl) rfl ?_
 rw [F5 hC (Bq (Gi _ (H4 _)) D1) tC]
 obtain ⟨i, hi, hc⟩ := AeJ
 rw [H5, hi, zaC, hc, Aew]
 have hlX := Ld 3 24 Aq o.fFl
 generalize hX : Bn Ar E0.tp 3 24 (Ai Aq o.fFl) = X at hlX
 have hlQ := Ld (3 + X.2.length) 25 Aj o.fQ
 generalize hQ : Bn Ar E0.tp (3 + X.2.length) 25 (Ai Aj o.fQ) = Q at hlQ
 have hX' : Bn Ar E0.tp ([⟨Bf o, true, true⟩, ⟨Aj m, true, true⟩, ⟨[i0, .nl, .nl], true, true⟩] : Ab).length 24 (Ai Aq o.fFl) = X := hX
 have hQ' : Bn Ar E0.tp (([⟨Bf o, true, true⟩, ⟨Aj m, true, true⟩, ⟨[i0, .nl, .nl], true, true⟩] : Ab).length + X.2.length) 25 (Ai Aj o.fQ) = Q := hQ
 have hh := h X Q hX hQ
 simp only [hX', hQ']
 generalize hb0 : (⟨Bf o, true, true⟩ : Hf) = b0 at hh ⊢
 generalize hb1 : (⟨Aj m, true, true⟩ : Hf) = b1 at hh ⊢
 have hN : ([b0, b1, ⟨Cn, true, true⟩] ++ (X.2 ++ Q.2) : Ab).length = 3 + (X.2.length + Q.2.length) := by simp; omega
 have hg : ([b0, b1, ⟨Cn, true, true⟩] ++ (X.2 ++ Q.2) ++ [⟨Cn, true, true⟩] : Ab)[3 + (X.2.length + Q.2.length)]? = some ⟨Cn, true, true⟩ := by
  rw [← hN]
  exact Kt _ _ []
 have hs : ([b0, b1, ⟨Cn, true, true⟩] ++ (X.2 ++ Q.2) ++ [⟨Cn, true, true⟩] : Ab).set (3 + (X.2.length + Q.2.length)) ⟨Cl Cn 0 [si o.fLast, X.1, Q.1], true, true⟩ = [b0, b1, ⟨Cn, true, true⟩] ++ (X.2 ++ Q.2) ++ [⟨[si o.fLast, X.1, Q.1], true, true⟩] := by
  rw [← hN]
  exact Zy _ _ _ []
 have hst := Ip (β := AV) 3 (3 + (X.2.length + Q.2.length)) 0 (.agg [si o.fLast, X.1, Q.1]) ⟨Cn, true, true⟩ [si o.fLast, X.1, Q.1] ([b0, b1, ⟨Cn, true, true⟩] ++ (X.2 ++ Q.2) ++ [⟨Cn, true, true⟩]) (fun H => K (.ptr 0 0) (.ptr 1 0) (.ptr 2 0) (.ptr (3 + (X.2.length + Q.2.length)) 0) H) hg (Ac0 rfl hlX hlQ) rfl (A9 rfl) rfl
 rw [hs] at hst
 have e : Ew 3 (.ptr ([b0, b1, ⟨Cn, true, true⟩] ++ (X.2 ++ Q.2) : Ab).length 0) (.agg [si o.fLast, X.1, Q.1]) ([b0, b1, ⟨Cn, true, true⟩] ++ (X.2 ++ Q.2) ++ [⟨Cn, true, true⟩]) (fun H => K (.ptr 0 0) (.ptr 1 0) (.ptr 2 0) (.ptr ([b0, b1, ⟨Cn, true, true⟩] ++ (X.2 ++ Q.2) : Ab).length 0) H) = r := by
  rw [hN]
  exact hst.trans hh
 exact e
theorem Qr {n gC gO gP : Nat} {o : A7} {m : Cd} {q' : List Cd} {c : Int} {ok : Bool} (hC : Gc gC = false) (hO : Gc gO = false) (hP : Gc gP = false) (tC : Cs E0 n 27 gC [.agg (Bf o)] = some (.agg (Bf o)))
  (tO : Cs E0 n 4 gO [.agg (Bf o)] = some (sb ok)) (tP : Cs E0 n 90 gP [Ai Aj o.fQ, .agg (Aj m)] = some (.tup [Ai Aj q', si c])) :
  (O6 (.agg (Bf o)) [] fun t2 H => O6 (.agg (Aj m)) H fun t3 H => L8 [i0, .nl, .nl] H fun t4 H => Ct true 3 t2 H fun t9 => (PR n AV).call 27 (.fn gC [] []) [t9] H fun t10 H => L8 [i0, .nl, .nl] H fun t6 H => Ew 3 t6 t10 H fun H => Ct true 3 t2 H fun t11 => (PR n AV).call 4 (.fn gO [] []) [t11] H fun t12 H => pUn .not t12 fun t13 => H8 t13
   (Ct true 3 t6 H fun t14 => Ew 3 t4 t14 H fun H => Ct true 3 t4 H fun r0 => Ba Ar E0.tp 49 H (Cu [r0, si 2]))
   (Ej 2 t2 fun t16 => Ct false 1 t16 H fun t17 => Ct true 4 t3 H fun t18 => (PR n AV).call 90 (.fn gP [] []) [t17, t18] H fun t19 H => O7 t19 0 fun t20 => O7 t19 1 fun t21 => Ej 2 t6 fun t23 => Ew 1 t23 t20 H fun H => Ct true 3 t6 H fun t24 => Ew 3 t4 t24 H fun H => Ct true 3 t4 H fun r0 => Ba Ar E0.tp 49 H (Cu [r0, t21]))) =
  some (.tup [.agg (Bf (if ok then { o with fQ := q' } else o)), si (if ok then c else 2)]) := by
 refine Agk hC tC fun X Q hX hQ => ?_
 have hlX : Ap X.1 = true := by rw [← hX]; exact Ld _ _ _ _
 have hlQ : Ap Q.1 = true := by rw [← hQ]; exact Ld _ _ _ _
 generalize hb0 : (⟨Bf o, true, true⟩ : Hf) = b0
 generalize hb1 : (⟨Aj m, true, true⟩ : Hf) = b1
 have hN : ([b0, b1, ⟨Cn, true, true⟩] ++ (X.2 ++ Q.2) : Ab).length = 3 + (X.2.length + Q.2.length) := by simp; omega
 have own1 : ∀ R : Ab, B4 Ar E0.tp ([b0, b1, ⟨Cn, true, true⟩] ++ (X.2 ++ Q.2) ++ R) 6 24 X.1 = some (Ai Aq o.fFl, zbk 3 X.2.length) := by
  intro R
  rw [← hX]
  refine Gt 6 _ _ 3 (Gs (d := 5) A5 U4 (P2 3) o.fFl) ?_
  rw [hX]
  have := Og [b0, b1, ⟨Cn, true, true⟩] X.2 (Q.2 ++ R)
  rw [zaj] at this
  rw [zaj, zaj]
  exact this
 have own2' : ∀ R : Ab, B4 Ar E0.tp ([b0, b1, ⟨Cn, true, true⟩] ++ (X.2 ++ Q.2) ++ R) 6 25 Q.1 = some (Ai Aj o.fQ, zbk (3 + X.2.length) Q.2.length) := by
  intro R
  rw [← hQ]
  refine Gt 6 _ _ (3 + X.2.length) (Gs (d := 5) Ec K2 (Io 3) o.fQ) ?_
  rw [hQ]
  have := Og ([b0, b1, ⟨Cn, true, true⟩] ++ X.2) Q.2 R
  rw [zag, zaj [b0, b1, ⟨Cn, true, true⟩] X.2 Q.2] at this
  exact this
 have g0 : ∀ R : Ab, ([b0, b1, ⟨Cn, true, true⟩] ++ (X.2 ++ Q.2) ++ R : Ab)[0]? = some ⟨Bf o, true, true⟩ := fun R => by rw [hb0]; rfl
 have g1 : ∀ R : Ab, ([b0, b1, ⟨Cn, true, true⟩] ++ (X.2 ++ Q.2) ++ R : Ab)[1]? = some ⟨Aj m, true, true⟩ := fun R => by rw [hb1]; rfl
 have g2 : ∀ R : Ab, ([b0, b1, ⟨Cn, true, true⟩] ++ (X.2 ++ Q.2) ++ R : Ab)[2]? = some ⟨Cn, true, true⟩ := fun R => rfl
 generalize hA : ([b0, b1, ⟨Cn, true, true⟩] ++ (X.2 ++ Q.2) : Ab) = A at hN own1 own2' g0 g1 g2 ⊢
 refine Su (g0 _) (Aim _) (D0 hO (Bq (Gi _ (H4 _)) D1) tO (Hq ?_))
 cases ok
 refine Fn rfl (AaH (q' := o.fQ) (by rw [← hN]; exact Kt A _ []) (g2 _) hlX hlQ (own1 _) (own2' _) ?_ ?_ ?_)
 have := List.range'_append (s := 3) (m := X.2.length) (n := Q.2.length) (step := 1)
 rw [zbt] at this
 rw [this]
 exact zbb
 rw [zaQ]; omega
 rw [zaQ]; omega
 refine Fy rfl (Ah (Bl (c := Ai Aj o.fQ) (g0 _) (A9 rfl) rfl (Su (g1 _) (Ec _) ?_)))
 rw [F5 hP (Bq (Ez _ _ _) (Bq (Gi _ (Ff _)) D1)) tP, AbT]
 have hlP := Ld (A ++ [⟨[si o.fLast, X.1, Q.1], true, true⟩] : Ab).length 25 Aj q'
 generalize hP : Bn Ar E0.tp (A ++ [⟨[si o.fLast, X.1, Q.1], true, true⟩] : Ab).length 25 (Ai Aj q') = P at hlP
 refine Kf (x := P.1) rfl (Kf (x := si c) rfl (Ah ?_))
 have hg : (A ++ [⟨[si o.fLast, X.1, Q.1], true, true⟩] ++ P.2 : Ab)[3 + (X.2.length + Q.2.length)]? = some ⟨[si o.fLast, X.1, Q.1], true, true⟩ := by
  rw [← hN, zaj]
  exact Kt A _ P.2
 rw [Ip 1 (3 + (X.2.length + Q.2.length)) (0 + 2) P.1 _ [P.1] _ _ hg (Zm hlP) rfl (A9 rfl) rfl]
 have hs : (A ++ [⟨[si o.fLast, X.1, Q.1], true, true⟩] ++ P.2 : Ab).set (3 + (X.2.length + Q.2.length)) ⟨Cl [si o.fLast, X.1, Q.1] (0 + 2) [P.1], true, true⟩ = A ++ (⟨[si o.fLast, X.1, P.1], true, true⟩ :: P.2) := by
  rw [← hN, zaj]
  exact Zy A _ _ P.2
 rw [hs]
 have oP : B4 Ar E0.tp (A ++ (⟨[si o.fLast, X.1, P.1], true, true⟩ :: P.2)) 6 25 P.1 = some (Ai Aj q', zbk (A.length + 1) P.2.length) := by
  have hP2 : Bn Ar E0.tp (A.length + 1) 25 (Ai Aj q') = P := by
   rw [← hP, zag, zao]
  rw [← hP2]
  refine Gt 6 _ _ (A.length + 1) (Gs (d := 5) Ec K2 (Io 3) q') ?_
  rw [hP2]
  have := Jt (A ++ [⟨[si o.fLast, X.1, P.1], true, true⟩]) P.2
  rw [zag, zao, zaj] at this
  exact this
 refine AaH (q' := q') (by rw [← hN]; exact Kt A _ P.2) (g2 _) hlX hlP (own1 _) oP ?_ ?_ ?_
 rw [zaP]
 refine ⟨zbb, zbb, fun a ha b hb => ?_⟩
 rw [zaQ] at ha hb
 omega
 rw [zaQ]; omega
 rw [zaQ]; omega
def Do (o : A7) (m : Cd) : A7 := if C9 o then { o with fQ := G1 o.fQ m } else o
def Iv (o : A7) (m : Cd) : Int := if C9 o then E1 o.fQ m else 2
theorem AjM (o : A7) (h : Fj o ≤ 1048576) : Oc o := by
 have h1 := Qb o h
 exact ⟨⟨h1.1.1, fun y hy => (h1.1.2 y hy).1⟩, ⟨h1.2.1.1, fun y hy => (h1.2.1.2 y hy).1⟩⟩
theorem K1 (n : Nat) (hn : 1048576 < n) (x0 : A7) (x1 : Cd) (k0 : O0 x0) (k1 : Cp x1) (b0 : Fj x0 ≤ 1048576) (b1 : Bo x1 ≤ 1048576) : Cs E0 (n + 11) 49 19 [.agg (Bf x0), .agg (Aj x1)] = some (.tup [.agg (Bf (Do x0 x1)), .sc (.int .i64 (Iv x0 x1))]) := by
 rw [Bb, Ahw, f19]
 simp only [C8, C2, Bm, Bs, B3, Fo, A2, Kh]
 exact Qr rfl rfl rfl (Sm (n + 6) (by omega) x0 (AjM x0 b0)) (Pd n hn _ x0 b0) (Z0 (n + 2) (by omega) x0.fQ x1 k0.2.2 k1 (by unfold Fj at b0; omega) b1)
theorem Ty (n : Nat) (hn : 1048576 < n) (x0 : A7) (x1 : Cd) (k0 : O0 x0) (k1 : Cp x1) (b0 : Fj x0 ≤ 1048576) (b1 : Bo x1 ≤ 1048576) : Cs E0 (n + 11) 49 18 [.agg (Bf x0), .agg (Aj x1)] = some (.tup [.agg (Bf (Do x0 x1)), .sc (.int .i64 (Iv x0 x1))]) := by
 rw [Bb, Ahv, f18]
 simp only [C8, C2, Bm, Bs, B3, Fo, A2, Kh]
 exact Qr rfl rfl rfl (Wk (n + 6) (by omega) x0 (AjM x0 b0)) (Lb n hn _ x0 b0) (Zj (n + 1) (by omega) x0.fQ x1 k0.2.2 k1 (by unfold Fj at b0; omega) b1)
end
section
open Go
section
variable {β : Type} {n : Nat} {H : Ab} {L L' L1 L2 : List Ck} {G : Option β → Prop} {K : AV → Option β} {KH : KO β}
theorem Aix {cty : List Nat} {m i : Nat} (hi : i < m) : (zad m cty).flatten = (zad i cty).flatten ++ (cty ++ (zad (m - i - 1) cty).flatten) := by
 rw [show (zad m cty) = zad i cty ++ (cty :: zad (m - i - 1) cty) from by
  rw [← List.replicate_succ, zaB]
  congr 1
  omega]
 simp
theorem AaQ {α : Type} {enc : α → List AV} {l : List α} {i : Nat} {y : α} (hy : l[i]? = some y) : (l.map enc).flatten = ((l.take i).map enc).flatten ++ (enc y ++ ((l.drop (i + 1)).map enc).flatten) := by
 have h := (zac.1 hy)
 obtain ⟨h1, h2⟩ := h
 have e : l = l.take i ++ y :: l.drop (i + 1) := by
  rw [← h2, List.getElem_cons_drop, zaL]
 have e2 : l.map enc = (l.take i).map enc ++ (enc y :: (l.drop (i + 1)).map enc) := by
  rw [← zau, ← za5, ← e]
 rw [e2]
 simp
theorem Akf {l : List AV} {a b : Nat} (h : a + b ≤ l.length) : l = l.take a ++ ((l.drop a).take b ++ l.drop (a + b)) := by
 rw [← zaV, zaL, zaL]
theorem Acj {c ds : List AV} {off p m : Nat} (h : p + ds.length ≤ m) (hm : off + m ≤ c.length) : ((Cl c (off + p) ds).drop off).take m = ((c.drop off).take m).take p ++ (ds ++ (((c.drop off).take m).drop p).drop ds.length) := by
 have h1 : Cl c (off + p) ds = c.take off ++ ((c.drop off).take p ++ (ds ++ c.drop (off + p + ds.length))) := by
  unfold Cl
  rw [List.take_add]
  simp only [zaj]
 rw [h1, zbL (by rw [za6]; omega), List.take_append, List.take_append]
 have l1 : ((c.drop off).take p).length = p := by rw [za6, zaF]; omega
 rw [zbv (by rw [l1]; omega : ((c.drop off).take p).length ≤ m), l1, zbv (l := ds) (i := m - p) (by omega), zbI, zaK (by omega), zaV, zbH, zaV]
 rw [show m - p - ds.length = m - (p + ds.length) by omega, show off + p + ds.length = off + (p + ds.length) by omega]
theorem Aeh {α : Type} {enc : α → List AV} {w ty k v : Nat} {cty : List Nat} {x yv : AV} {l : List α} {y y' : α} {i : Int} {ds cm : List AV} {KS : Ab → Option β} (hs : Sep H L) (hty : ∃ i j, Ar ty = some i ∧ Ar i.elem = some j ∧ j.size = w ∧ j.cty = cty) (hc : cty.length = w) (hp : Pk L (.own x ty (Ai enc l)) L1)
  (hr : OwnR L1 ds ((cty.drop k).take v) cm L2) (hok : Es (Gr Ar E0.tp 5) ((cty.drop k).take v) cm) (hi : 0 ≤ i) (hy : l[i.toNat]? = some y) (hw : ∀ x, (enc x).length = w) (hk : k + v ≤ w) (hyv : Cv yv = some ds) (hdl : ds.length = v) (hcl : cm.length = v) (he : enc y' = Cl (enc y) k cm)
  (h : ∀ H', Sep H' (.own x ty (Ai enc (l.set i.toNat y')) :: L2) → Gd G (KS H')) : Gd G (Fa w x (si i) fun t => Ej k t fun t => Ew v t yv H fun H => KS H) := by
 obtain ⟨ti, tj, e1, e2, rfl, rfl⟩ := hty
 obtain ⟨I, ⟨J, R, rfl, ⟨hlf, hok1, e⟩, h2⟩, h3⟩ := hs.pick hp
 have hlt : i.toNat < l.length := (zac.1 hy).1
 rcases Kq e1 e2 e with ⟨rfl, h0, _, _⟩ | ⟨id, off, raw, J', b, rfl, rfl, hb, hlv, ha, h4, h5⟩
 omega
 obtain ⟨hl4, b', hb', _, hle, hcs⟩ := Gy h4
 rw [hb] at hb'
 cases hb'
 have hm : (i.toNat + 1) * tj.size ≤ l.length * tj.size := za7 _ hlt
 rw [zaM, zbt] at hm
 have hlc : ((l.map enc).flatten).length = l.length * tj.size := Fh hw l
 have hid : id < H.length := (zac.1 hb).1
 refine Or hi (by omega) (Am (o' := off + (i.toNat * tj.size + k)) (by omega) ?_)
 have hst := Ip v id (off + (i.toNat * tj.size + k)) yv b ds H (fun H => KS H) hb hyv hdl (by omega) hlv
 refine Dr hst (h _ ?_)
 generalize hT1 : (zad i.toNat tj.cty).flatten ++ tj.cty.take k = T1
 generalize hT3 : tj.cty.drop (k + v) ++ (zad (l.length - i.toNat - 1) tj.cty).flatten = T3
 have hT : (zad l.length tj.cty).flatten = T1 ++ ((tj.cty.drop k).take v ++ T3) := by
  rw [Aix hlt, ← hT1, ← hT3]
  have : tj.cty = tj.cty.take k ++ ((tj.cty.drop k).take v ++ tj.cty.drop (k + v)) := by rw [← zaV, zaL, zaL]
  conv => lhs; rw [show tj.cty ++ (zad (l.length - i.toNat - 1) tj.cty).flatten = (tj.cty.take k ++ ((tj.cty.drop k).take v ++ tj.cty.drop (k + v))) ++ (zad (l.length - i.toNat - 1) tj.cty).flatten by rw [← this]]
  simp only [zaj]
 have hT1l : T1.length = i.toNat * tj.size + k := by rw [← hT1]; simp [hc]; omega
 have hT2l : ((tj.cty.drop k).take v).length = v := by simp [hc]; omega
 generalize hA : ((l.take i.toNat).map enc).flatten ++ (enc y).take k = A
 generalize hD : (enc y).drop (k + v) ++ ((l.drop (i.toNat + 1)).map enc).flatten = D
 have hC : (l.map enc).flatten = A ++ (((enc y).drop k).take v ++ D) := by
  rw [AaQ hy, ← hA, ← hD]
  have : enc y = (enc y).take k ++ (((enc y).drop k).take v ++ (enc y).drop (k + v)) := Akf (by rw [hw]; exact hk)
  conv => lhs; rw [show enc y ++ ((l.drop (i.toNat + 1)).map enc).flatten = ((enc y).take k ++ (((enc y).drop k).take v ++ (enc y).drop (k + v))) ++ ((l.drop (i.toNat + 1)).map enc).flatten by rw [← this]]
  simp only [zaj]
 have hAl : A.length = i.toNat * tj.size + k := by
  rw [← hA, zag, Fh hw, za6, za6, hw]
  rw [zaK (by omega), zaK (by omega)]
 have hBl : (((enc y).drop k).take v).length = v := by rw [za6, zaF, hw]; omega
 have hC2 : ((l.set i.toNat y').map enc).flatten = A ++ (cm ++ D) := by
  have hy' : (l.set i.toNat y')[i.toNat]? = some y' := by rw [zbf hlt]
  rw [AaQ hy', ← hA, ← hD, he, List.take_set_of_le (zak _), List.drop_set_of_lt (Nat.lt_succ_self _)]
  unfold Cl
  rw [hcl]
  simp only [zaj]
 rw [hT, hC] at h5
 have hrl : raw.length = l.length * tj.size := hl4
 obtain ⟨IA, IX, q1, q2, rfl⟩ := Ja h5 (by rw [hT1l]; omega)
 obtain ⟨IB, ID, q3, q4, rfl⟩ := Ja q2 (by rw [hT2l, zaF, hT1l]; omega)
 rw [hT1l] at q1 q3 q4
 rw [hT2l] at q3 q4
 rw [show (A ++ (((enc y).drop k).take v ++ D)).take (i.toNat * tj.size + k) = A by rw [← hAl]; simp] at q1
 rw [show ((A ++ (((enc y).drop k).take v ++ D)).drop (i.toNat * tj.size + k)).drop v = D by
  rw [← hAl, zbL rfl]
  exact zbL hBl] at q4
 have hn1 := zaH.1 (show (id :: (IA ++ (IB ++ ID) ++ R)).Nodup from h3)
 generalize hH : H.set id { b with cells := Cl b.cells (off + (i.toNat * tj.size + k)) ds } = H'
 have hfr : ∀ z, z ≠ id → H'[z]? = H[z]? := fun z hz => by rw [← hH, za1 (fun e => hz e.symm)]
 have hRf : SepI H' L1 R := h2.frame fun z hz => hfr z (fun e => hn1.1 (e ▸ zap _ hz))
 obtain ⟨JM, R', g1, g2, g3⟩ := hr.sound hRf 5 hok
 have q1' := Eg (f' := B4 Ar E0.tp H' 5) (fun t x a h hi => C7 5 t x a h fun z hz => hfr z (fun e => hn1.1 (e ▸ zas _ (zas _ (hi z hz))))) q1
 have q4' := Eg (f' := B4 Ar E0.tp H' 5) (fun t x a h hi => C7 5 t x a h fun z hz => hfr z (fun e => hn1.1 (e ▸ zas _ (zap _ (zap _ (hi z hz)))))) q4
 have h7 := H7 q1' (H7 g1 q4')
 have hnd : (id :: (IA ++ (JM ++ ID)) ++ R').Nodup := by
  have h4' := (zb1.append_left (id :: (IA ++ (IB ++ ID))) g3).nodup h3
  have hpm : (id :: (IA ++ (IB ++ ID)) ++ (JM ++ R')).Perm (IB ++ (id :: (IA ++ (JM ++ ID)) ++ R')) := by
   rw [List.perm_iff_count]
   intro a
   simp only [List.count_append, zar, List.count_cons]
   omega
  exact (zaP.1 (hpm.nodup h4')).2.1
 refine ⟨(id :: (IA ++ (JM ++ ID))) ++ R', ⟨id :: (IA ++ (JM ++ ID)), R', rfl, ⟨rfl, ?_, ?_⟩, g2⟩, hnd⟩
 obtain ⟨i', j', u1, u2, u3, u4⟩ := hok1
 rw [e1] at u1
 cases u1
 rw [e2] at u2
 cases u2
 refine ⟨ti, tj, e1, e2, ?_, ?_⟩
 show ((l.set i.toNat y').map enc).flatten.length = (l.set i.toNat y').length * tj.size
 rw [Fh hw]
 rw [zbh, hT]
 rw [hT, hC] at u4
 obtain ⟨v1, v2⟩ := Gm u4
 obtain ⟨_, v3⟩ := Gm v2
 rw [hT1l, ← hAl, List.take_left' rfl] at v1
 rw [hT1l, hT2l, ← hAl, zbL rfl, zbL hBl] at v3
 show Es _ _ (((l.set i.toNat y').map enc).flatten)
 rw [hC2]
 exact G4 v1 (G4 hok v3)
 have hg : H'[id]? = some { b with cells := Cl b.cells (off + (i.toNat * tj.size + k)) ds } := by rw [← hH]; exact zbf hid
 rw [show Ai enc (l.set i.toNat y') = .ro (l.set i.toNat y').length (((l.set i.toNat y').map enc).flatten) from rfl, zbh, Gn, hC2]
 have hap : Ga H' id = true := by simp only [Ga, hg]; exact ha
 have hrd : Ax H' id off (l.length * tj.size) = some (raw.take (i.toNat * tj.size + k) ++ (ds ++ (raw.drop (i.toNat * tj.size + k)).drop v)) := by
  unfold Ax
  rw [hg]
  simp only [hlv, if_true]
  have hsl : (Cl b.cells (off + (i.toNat * tj.size + k)) ds).length = b.cells.length := by
   unfold Cl
   simp only [zag, za6, zaF]
   omega
  rw [if_pos (by rw [hsl]; exact hle), Acj (by omega) hle, hcs, hdl]
 simp only [e1, e2, zab, if_true, hap, hrd, hT, h7]
end
end
end Go.Proofs.YtdofipeaomgbbaaGreatDoor.Abs
set_option maxHeartbeats 32000000
namespace Go.Proofs.YtdofipeaomgbbaaGreatDoor.Abs
open _root_.Option renaming bind_some → zab, getD_some → zaC, map_eq_some_iff → zaT
open _root_.List renaming getElem?_eq_some_iff → zac, replicate → zad, length_append → zag, nil_append → zah, append_assoc → zaj, getElem?_eq_getElem → zam, append_nil → zan, length_singleton → zao, mem_append_right → zap, cons_append → zar, mem_append_left → zas, mem_cons_of_mem → zat, map_cons → zau, length_cons → zav, length_nil → zay, getElem?_set_ne → za1, mem_cons → za2, all_eq_true → za3, forall_mem_append → za4, map_append → za5, length_take → za6, mem_cons_self → za8, replicate_append_replicate → zaB, length_drop → zaF, nodup_cons → zaH, not_mem_nil → zaI, mem_append → zaJ, take_append_drop → zaL, nodup_append → zaP, mem_range'_1 → zaQ, drop_drop → zaV, getElem?_map → zaZ, nodup_range' → zbb, getElem?_set_self → zbf, any_cons → zbg, length_set → zbh, range' → zbk, map_nil → zbs, take_of_length_le → zbv, Perm → zb1, mem_singleton → zb6, headD_cons → zbB, length_map → zbC, mem_of_getElem? → zbF, tail_cons → zbG, drop_take → zbH, take_take → zbI, drop_left' → zbL
open _root_.Bool renaming and_eq_true → zai, false_eq_true → zal, or_eq_false_iff → zbE
open _root_.Nat renaming le_refl → zak, zero_add → zaw, le_trans → zaz, mul_le_mul_right → za7, add_le_add_right → za9, add_le_add_left → zaD, min_eq_left → zaK, add_mul → zaM, zero_le → zaN, add_zero → zbd, one_mul → zbt
open _root_.Int renaming toNat_natCast → zbm
section
open Go
theorem E9 {α : Type} (w : α → Nat) : ∀ (a b : List α), Fm w (a ++ b) = Fm w a + Fm w b
 | [], b => by
  show _ = 0 + _
  rw [zaw]
  rfl
 | x :: a, b => by
  show 1 + w x + Fm w (a ++ b) = 1 + w x + Fm w a + Fm w b
  rw [E9 w a b]
  omega
theorem Jn {α : Type} (w : α → Nat) : ∀ (l : List α) (i : Nat) (y y' : α), l[i]? = some y → Fm w (l.set i y') + w y = Fm w l + w y'
 | [], i, y, y', h => by simp at h
 | x :: l, 0, y, y', h => by
  have : x = y := by simpa using h
  subst this
  show 1 + w y' + Fm w l + w x = 1 + w x + Fm w l + w y'
  omega
 | x :: l, i + 1, y, y', h => by
  have := Jn w l i y y' (by simpa using h)
  show 1 + w x + Fm w (l.set i y') + w y = 1 + w x + Fm w l + w y'
  omega
theorem Ki {α : Type} {p : α → Prop} {l : List α} {i : Nat} {y' : α} (h : ∀ z ∈ l, p z) (hy : p y') : ∀ z ∈ l.set i y', p z := fun z hz => by
 rcases List.mem_or_eq_of_mem_set hz with h1 | rfl
 exact h z h1
 exact hy
theorem Kv {α : Type} {p : α → Prop} {l : List α} {i : Nat} {y : α} (h : ∀ z ∈ l, p z) (hy : l[i]? = some y) : p y := h y (zbF hy)
def OutB (b : Nat) (o : A7) : Prop := (Fb o.fLast ∧ (∀ z ∈ o.fFl, Bw z) ∧ ∀ z ∈ o.fQ, Cp z) ∧ Fm As o.fFl + Fm Bo o.fQ ≤ b
theorem OutB.ok {b : Nat} {o : A7} (h : OutB b o) (hb : b ≤ 1048576) : O0 o := by
 have h1 := Iy As o.fFl
 have h2 := Iy Bo o.fQ
 have h3 := h.2
 exact ⟨h.1.1, ⟨by omega, h.1.2.1⟩, ⟨by omega, h.1.2.2⟩⟩
theorem OutB.wt {b : Nat} {o : A7} (h : OutB b o) : Fj o ≤ b := by
 have h3 := h.2
 unfold Fj
 omega
theorem OutB.of {b : Nat} {o : A7} (h : O0 o) (hw : Fj o ≤ b) : OutB b o := by
 unfold Fj at hw
 exact ⟨⟨h.1, h.2.1.2, h.2.2.2⟩, by omega⟩
theorem Xc : ∀ (k : Nat) (u : List Int) (x : Int), Fb x → Fb (K0 u k x).1
 | 0, u, x, h => by
  unfold K0
  first | exact h | (constructor <;> decide) | (constructor <;> simp)
 | k + 1, u, x, h => by
  rw [K0]
  have h2 : Fb (nx x) := by
   unfold nx Fb
   omega
  split
  exact Xc k u (nx x) h2
  exact h2
theorem J8 {b : Nat} {o : A7} (h : OutB b o) : OutB b (Ag o) := by
 obtain ⟨⟨h1, h2, h3⟩, h4⟩ := h
 have ht : ∀ (q : List Cd), Fm Bo q.tail ≤ Fm Bo q := by
  intro q
  cases q with
  | nil => exact zak _
  | cons m l => show Fm Bo l ≤ 1 + Bo m + Fm Bo l; omega
 have hq := ht o.fQ
 have h3' : ∀ z ∈ o.fQ.tail, Cp z := fun z hz => h3 z (List.mem_of_mem_tail hz)
 unfold Ag
 split
 rename_i hr
 split
 exact ⟨⟨h1, h2, h3'⟩, by show Fm As o.fFl + Fm Bo o.fQ.tail ≤ b; omega⟩
 ·cases hc : o.fQ with
  | nil => simp [Iw, hc] at hr
  | cons m l =>
   rw [hc] at h3 h4
   have hm := h3 m (za8 ..)
   have hi : Fb (Fu o) := by
    unfold Fu Ch
    split
    exact Xc _ _ _ h1
    constructor <;> decide
   have hf : Bw (⟨Fu o, m, m.fQos⟩ : Ad) := ⟨hi, hm, hm.2.2.1⟩
   refine ⟨⟨hi, ?_, fun z hz => h3 z (zat _ hz)⟩, ?_⟩
   exact Jv h2 hf
   show Fm As (o.fFl ++ [(⟨Fu o, m, m.fQos⟩ : Ad)]) + Fm Bo l ≤ b
   rw [Hr]
   have e : As (⟨Fu o, m, m.fQos⟩ : Ad) = Bo m + 0 := rfl
   have e2 : Fm Bo (m :: l) = 1 + Bo m + Fm Bo l := rfl
   omega
 exact ⟨⟨h1, h2, h3⟩, h4⟩
theorem Aae {b : Nat} {kd d : Int} {o : A7} (h : OutB b o) : ∀ (t pre : List Ad), o.fFl = pre ++ t → OutB b (Db kd d o pre t).1
 | [], pre, he => h
 | f :: t, pre, he => by
  have ih := Aae (kd := kd) (d := d) h t (pre ++ [f]) (by rw [he]; simp)
  obtain ⟨⟨h1, h2, h3⟩, h4⟩ := h
  rw [he] at h2 h4
  have e1 : Fm As (pre ++ f :: t) = Fm As pre + (1 + As f + Fm As t) := E9 _ _ _
  rw [Db]
  split
  split
  refine ⟨⟨h1, fun z hz => h2 z ?_, h3⟩, ?_⟩
  rcases zaJ.1 hz with hz | hz
  exact zas _ hz
  exact zap _ (zat _ hz)
  show Fm As (pre ++ t) + Fm Bo o.fQ ≤ b
  rw [E9]
  omega
  split
  have hf := h2 f (by simp)
  refine ⟨⟨h1, fun z hz => ?_, h3⟩, ?_⟩
  rcases zaJ.1 hz with hz | hz
  exact h2 z (zas _ hz)
  rcases za2.1 hz with rfl | hz
  exact ⟨hf.1, hf.2.1, (by decide : (-9223372036854775808 : Int) ≤ 3 ∧ (3 : Int) ≤ 9223372036854775807)⟩
  exact h2 z (zap _ (zat _ hz))
  show Fm As (pre ++ { f with fSt := 3 } :: t) + Fm Bo o.fQ ≤ b
  have e2 : Fm As (pre ++ { f with fSt := 3 } :: t) = Fm As pre + (1 + As f + Fm As t) := E9 _ _ _
  omega
  exact ih
  exact ih
theorem V9 {b : Nat} {kd d : Int} {o : A7} (h : OutB b o) : OutB b (D6 o kd d).1 := by
 unfold D6
 split
 exact Aae h _ [] rfl
 exact h
theorem Vv {b : Nat} {o : A7} {m : Cd} (h : OutB b o) (hm : Cp m) : OutB (b + 1 + Bo m) (Do o m) := by
 obtain ⟨⟨h1, h2, h3⟩, h4⟩ := h
 unfold Do
 split
 unfold G1
 split
 refine ⟨⟨h1, h2, Jv h3 hm⟩, ?_⟩
 show Fm As o.fFl + Fm Bo (o.fQ ++ [m]) ≤ _
 rw [Hr]
 omega
 exact ⟨⟨h1, h2, h3⟩, by show Fm As o.fFl + Fm Bo o.fQ ≤ _; omega⟩
 exact ⟨⟨h1, h2, h3⟩, by omega⟩
theorem Hn {b : Nat} {o : A7} (h : OutB b o) : o.fFl.length ≤ b ∧ o.fQ.length ≤ b := by
 have h1 := Iy As o.fFl
 have h2 := Iy Bo o.fQ
 have h3 := h.2
 omega
theorem AaG {b : Nat} {o : A7} (h : OutB b o) : o.fFl.length ≤ b := (Hn h).1
theorem C0 {b : Nat} {l : Int} {f : List Ad} {q : List Cd} (h1 : Fb l) (h2 : ∀ z ∈ f, Bw z) (h3 : ∀ z ∈ q, Cp z) (h4 : Fm As f + Fm Bo q ≤ b) : OutB b ⟨l, f, q⟩ := ⟨⟨h1, h2, h3⟩, h4⟩
theorem OutB.mono {a b : Nat} {o : A7} (h : OutB a o) (hab : a ≤ b) : OutB b o := ⟨h.1, zaz h.2 hab⟩
theorem Aez (n : Nat) (hn : 1048576 < n) (code : ByteArray) (hcode : code.size ≤ 1048576) (c i : Nat) (h : Int)   {β : Type} {r : Option β} {KH : KO β} {H : Ab} {L : List Ck} (s0 : Sep H (Cr c code i h :: L)) (hk : ∀ (r0 : A7) (r0x1 : AV) (r0x2 : AV) (i' : Nat) (h' : Int) (H' : Ab), (Ap r0x1 = true) → (Ap r0x2 = true) → (OutB 110 r0) → Sep H' (.own r0x1 24 (Ai Aq r0.fFl) :: .own r0x2 25 (Ai Aj r0.fQ) :: Cr c code i' h' :: L) → Gd (· = r) (KH (.agg [.sc (.int .i64 r0.fLast), r0x1, r0x2]) H')) : Gd (· = r) (Di E0 (n + 16) β 86 [.ptr c 0] H fun x H => KH x H) := by
 rw [AhS, f86]
 try simp only [C2, Bv, B3, Bs, Bx]
 refine Dc s0 fun i1 H s2 => Bk (cs := [i0, i0, si 3, si 65534, si 65535]) rfl (Bz s2 fun i3 H s4 => Dd hcode (by omega) (by omega) rfl s4 Bu (.here) fun z5a iq6 hq6 H mz5 sq6 => ?_)
 have s7 := (sq6.pick A1).tail
 obtain ⟨z5, rfl, hz5⟩ := Ay (l := [0, 0, 3, 65534, 65535]) (lo := 0) (hi := 65535) mz5 (by decide)
 refine Bk (cs := [si z5, .nl, .nl]) rfl (Dc s7 fun i8 H s9 => Bg (cs' := [si z5, .nl, .nl]) s9 (.here) (Ac rfl) rfl (A9 rfl) rfl fun H s10 => Hh rfl rfl (Uj _ (by omega) code hcode c iq6 hq6 6 (by omega) (s10.pick A1) fun r11 r11x iq12 hq12 H lr11x hr11 sq12 => ?_))
 obtain ⟨or11, wr11⟩ := hr11
 have gr11 := Iy Bo r11
 refine Am (o' := 2) rfl (B0 sq12 Bu lr11x rfl fun H s13 => Gj (m := 6) hcode (by omega) s13 Bu fun z14 iq15 hq15 H hz14 sq15 => ?_)
 replace hz14 : 0 ≤ z14 ∧ z14 < 6 := by omega
 have lp16 : ∀ (j m : Nat) (z : Int) (m2 : A7) (m2x1 : AV) (m2x2 : AV) (i : Nat) (h : Int) (H : Ab), j < m → z = ((j : Nat) : Int) → Ap m2x1 = true → Ap m2x2 = true → (OutB 80 m2 ∧ j ≤ 5) → Sep H (.own m2x1 24 (Ai Aq m2.fFl) :: .own m2x2 25 (Ai Aj m2.fQ) :: Cr c code i h :: .blk i8 [si m2.fLast, m2x1, m2x2] true :: .blk i1 [i0, .nl, .nl] true :: L) → Gd (· = r) (Aw (PR ((n + 15)) β) ((n + 15)) (fun x H => KH x H) m (.ptr c 0) (.ptr i1 0) (.ptr i8 0) (si z) H) := by
  clear s0 s2 s4 sq6 s7 s9 s10 sq12 s13 sq15
  intro j
  induction j with
  | zero =>
   intro m0 z m2 m2x1 m2x2 i h H hm hz lm2x1 lm2x2 hinv s0
   obtain ⟨m, rfl⟩ : ∃ m, m0 = m + 1 := ⟨m0 - 1, by omega⟩
   have hnl : (Ag m2).fFl.length ≤ 80 := AaG (J8 hinv.1)
   rw [Aw]
   try simp only [C2, Bv, B3, Bm, Bs, Bh, A2, B6, Pr.gT, Pr.gF, Pr.hT, Pr.hF, Pr.kT, Pr.kF, Ce, B7, Ca, Bx, Kh]
   refine K9 (Bt (decide_eq_false (by omega)) (Gj (m := 4) hcode (by omega) s0 Bu fun z17 iq18 hq18 H hz17 sq18 => ?_))
   replace hz17 : 0 ≤ z17 ∧ z17 < 4 := by omega
   have lp19 : ∀ (j m : Nat) (z : Int) (m2 : A7) (m2x1 : AV) (m2x2 : AV) (i : Nat) (h : Int) (H : Ab), j < m → z = ((j : Nat) : Int) → Ap m2x1 = true → Ap m2x2 = true → (OutB (110 - 10 * j) m2 ∧ j ≤ 3) → Sep H (.own m2x1 24 (Ai Aq m2.fFl) :: .own m2x2 25 (Ai Aj m2.fQ) :: Cr c code i h :: .blk i8 [si m2.fLast, m2x1, m2x2] true :: .blk i1 [i0, .nl, .nl] true :: L) → Gd (· = r) (Mr (PR ((n + 15)) β) ((n + 15)) (fun x H => KH x H) m (.ptr c 0) (.ptr i1 0) (.ptr i8 0) (si z) H) := by
    clear s0 sq18
    intro j
    induction j with
    | zero =>
     intro m0 z m2 m2x1 m2x2 i h H hm hz lm2x1 lm2x2 hinv s0
     obtain ⟨m, rfl⟩ : ∃ m, m0 = m + 1 := ⟨m0 - 1, by omega⟩
     rw [Mr]
     try simp only [Bm, Bs, Bh, A2, Kh]
     refine K9 (Bt (decide_eq_false (by omega)) (Ae s0 Cq rfl (Bg (cs' := [si m2.fLast, m2x1, m2x2]) s0 E2 (Ac (Aa rfl (Aa lm2x1 (Aa lm2x2 rfl)))) rfl (A9 rfl) rfl fun H s20 => Ae s20 (.here) rfl ?_)))
     have e21 : OutB 110 (m2 : A7) := by
      exact hinv.1.mono (by omega)
     exact hk (m2 : A7) m2x1 m2x2 i h _ lm2x1 lm2x2 e21 (s20.sel (.cons A1 (.cons A1 (.cons A1 V1))))
    | succ j ih =>
     intro m0 z m2 m2x1 m2x2 i h H hm hz lm2x1 lm2x2 hinv s0
     obtain ⟨m, rfl⟩ : ∃ m, m0 = m + 1 := ⟨m0 - 1, by omega⟩
     rw [Mr]
     try simp only [Bm, Bs, Bh, A2, Kh]
     refine K9 (Ci (decide_eq_true (by omega)) (Gd.bothE ?_ ?_))
     refine Ae s0 Cq rfl (Hh rfl rfl (Oy _ (by omega) code hcode c i h   (s0.pick Bu) fun r22 r22x1 iq23 hq23 H lr22x1 hr22 sq23 => ?_))
     obtain ⟨or22, wr22⟩ := hr22
     have ur22 := or22
     have vr22 := wr22
     simp only [Cp, Bo, Ll, Fb, and_true, true_and] at ur22 vr22
     have c24 := K1 (n + 4) (by omega) m2 r22 (hinv.1.ok (by omega)) (by assumption) (zaz hinv.1.wt (by omega)) (by omega)
     refine I7 sq23 rfl (.agg (.cons .sc (.cons (.own (by decide) Bu) (.cons (.own (by decide) Cq) .nil))) (.agg (.cons .sc (.cons (.own (by decide) (.here)) (Hz .nil))) .nil)) (c24) rfl (G9 ⟨_, rfl, rfl⟩ (J7 _) (Ds Ha)) ?_
     rintro _ _ H ⟨_, _, _, _, rfl, rfl, ⟨x25, x26, lx25, lx26, rfl, rfl⟩, ⟨_, rfl, ⟨rfl, rfl⟩⟩⟩ s27
     simp only [zah, zar] at s27
     refine Eb (v := .agg [si ((Do m2 r22).fLast), x25, x26]) rfl (Eb (v := si (Iv m2 r22)) rfl (Bg (cs' := [si ((Do m2 r22).fLast), x25, x26]) s27 X9 (Ac (Aa rfl (Aa lx25 (Aa lx26 rfl)))) rfl (A9 rfl) rfl fun H s28 => Ue (by omega) (by omega) ?_))
     have e29 : OutB (110 - 10 * j) (⟨(Do m2 r22).fLast, ((Do m2 r22).fFl), ((Do m2 r22).fQ)⟩ : A7) ∧ j ≤ 3 := by
      refine ⟨?_, by omega⟩; first | exact OutB.mono hinv.1 (by omega) | exact OutB.mono (Vv hinv.1 (by assumption)) (by omega)
     exact ih m _ (⟨(Do m2 r22).fLast, ((Do m2 r22).fFl), ((Do m2 r22).fQ)⟩ : A7) x25 x26 iq23 hq23 _ (by omega) (by omega) lx25 lx26 e29 (s28.sel (.cons Bu (.cons A1 (.cons Bu (.cons (.here) (.cons Cq Yb))))))
     refine Hh rfl rfl (Oy _ (by omega) code hcode c i h   (s0.pick Bu) fun r30 r30x1 iq31 hq31 H lr30x1 hr30 sq31 => ?_)
     obtain ⟨or30, wr30⟩ := hr30
     have ur30 := or30
     have vr30 := wr30
     simp only [Cp, Bo, Ll, Fb, and_true, true_and] at ur30 vr30
     refine Ae sq31 E2 rfl ?_
     have c32 := K1 (n + 4) (by omega) m2 r30 (hinv.1.ok (by omega)) (by assumption) (zaz hinv.1.wt (by omega)) (by omega)
     refine I7 sq31 rfl (.agg (.cons .sc (.cons (.own (by decide) Bu) (.cons (.own (by decide) Cq) .nil))) (.agg (.cons .sc (.cons (.own (by decide) (.here)) (Hz .nil))) .nil)) (c32) rfl (G9 ⟨_, rfl, rfl⟩ (J7 _) (Ds Ha)) ?_
     rintro _ _ H ⟨_, _, _, _, rfl, rfl, ⟨x33, x34, lx33, lx34, rfl, rfl⟩, ⟨_, rfl, ⟨rfl, rfl⟩⟩⟩ s35
     simp only [zah, zar] at s35
     refine Eb (v := .agg [si ((Do m2 r30).fLast), x33, x34]) rfl (Eb (v := si (Iv m2 r30)) rfl (Bg (cs' := [si ((Do m2 r30).fLast), x33, x34]) s35 X9 (Ac (Aa rfl (Aa lx33 (Aa lx34 rfl)))) rfl (A9 rfl) rfl fun H s36 => Ue (by omega) (by omega) ?_))
     have e37 : OutB (110 - 10 * j) (⟨(Do m2 r30).fLast, ((Do m2 r30).fFl), ((Do m2 r30).fQ)⟩ : A7) ∧ j ≤ 3 := by
      refine ⟨?_, by omega⟩; first | exact OutB.mono hinv.1 (by omega) | exact OutB.mono (Vv hinv.1 (by assumption)) (by omega)
     exact ih m _ (⟨(Do m2 r30).fLast, ((Do m2 r30).fFl), ((Do m2 r30).fQ)⟩ : A7) x33 x34 iq31 hq31 _ (by omega) (by omega) lx33 lx34 e37 (s36.sel (.cons Bu (.cons A1 (.cons Bu (.cons (.here) (.cons Cq Yb))))))
   have e38 : OutB (110 - 10 * (z17).toNat) (m2 : A7) ∧ (z17).toNat ≤ 3 := by
    refine ⟨?_, by omega⟩; first | exact OutB.mono hinv.1 (by omega) | exact OutB.mono (Vv hinv.1 (by assumption)) (by omega)
   exact lp19 (z17).toNat _ _ (m2 : A7) m2x1 m2x2 iq18 hq18 _ (by omega) (by omega) lm2x1 lm2x2 e38 (sq18.sel (.cons A1 (.cons A1 (.cons (.here) (.cons (.here) (.cons (.here) .rest))))))
  | succ j ih =>
   intro m0 z m2 m2x1 m2x2 i h H hm hz lm2x1 lm2x2 hinv s0
   obtain ⟨m, rfl⟩ : ∃ m, m0 = m + 1 := ⟨m0 - 1, by omega⟩
   have hnl : (Ag m2).fFl.length ≤ 80 := AaG (J8 hinv.1)
   rw [Aw]
   try simp only [C2, Bv, B3, Bm, Bs, Bh, A2, B6, Pr.gT, Pr.gF, Pr.hT, Pr.hF, Pr.kT, Pr.kF, Ce, B7, Ca, Bx, Kh]
   have tl68 : ∀ (u69 : AV) (u70 : AV) (z71 : Int) (z72 : Int) (i : Nat) (h : Int) (H : Ab), Ap u69 = true → Ap u70 = true → Sep H (.own u69 24 (Ai Aq ((Ag m2).fFl)) :: .own u70 25 (Ai Aj ((Ag m2).fQ)) :: Cr c code i h :: .blk i8 [si ((Ag m2).fLast), u69, u70] true :: .blk i1 [i0, .nl, .nl] true :: L) → Gd (· = r) ((PR ((n + 15)) β).call 45 (.fn 16 [] []) [(.agg [si ((Ag m2).fLast), u69, u70]), (si z71), (si z72)] H fun t50 H => (PR ((n + 15)) β).extr t50 0 fun t51 => (PR ((n + 15)) β).extr t50 1 fun t52 => (PR ((n + 15)) β).extr t50 2 fun t53 => (PR ((n + 15)) β).store 3 (.ptr i8 0) t51 H fun H => (PR ((n + 15)) β).bin .sub (si z) (si 1) fun t19 => Aw (PR ((n + 15)) β) ((n + 15)) (fun x H => KH x H) m (.ptr c 0) (.ptr i1 0) (.ptr i8 0) t19 H) := by
    intro u69 u70 z71 z72 i h H lu69 lu70 s0
    try simp only [C8, C2, Bv, B3, Bm, Bs, Bh, Dz, Dy, Fo, A2, B6, Pr.gT, Pr.gF, Pr.hT, Pr.hF, Pr.kT, Pr.kF, Ce, B7, Dj, Ca, Et, Dk, Cx, Bx, Ed, C6, AeV, D2, AeW, D5, Aab, Kh, Ye, Acp, AgW, V6, Aac]
    have c73 := Xv (n + 2) (by omega) (⟨(Ag m2).fLast, ((Ag m2).fFl), ((Ag m2).fQ)⟩) z71 z72 (zaz (J8 hinv.1).wt (by omega))
    refine I7 s0 rfl (.agg (.cons .sc (.cons (.own (by decide) (.here)) (.cons (.own (by decide) A1) .nil))) (Hz .nil)) (c73) rfl (G9 ⟨_, rfl, rfl⟩ (J7 _) (G9 ⟨_, rfl, rfl⟩ (Eh _) (Ds Ha))) ?_
    rintro _ _ H ⟨_, _, _, _, rfl, rfl, ⟨x80, x81, lx80, lx81, rfl, rfl⟩, ⟨_, _, _, _, rfl, rfl, ⟨x74, x75, x76, x77, x78, x79, lx74, lx75, lx76, lx77, lx78, lx79, rfl, rfl⟩, ⟨_, rfl, ⟨rfl, rfl⟩⟩⟩⟩ s82
    simp only [zah, zar] at s82
    refine Eb (v := .agg [.sc (.int .i64 ((D6 (⟨(Ag m2).fLast, ((Ag m2).fFl), ((Ag m2).fQ)⟩) z71 z72).1.fLast)), x80, x81]) rfl (Eb (v := .agg [.sc (.int .i64 ((D6 (⟨(Ag m2).fLast, ((Ag m2).fFl), ((Ag m2).fQ)⟩) z71 z72).2.1.fType)), .sc (.bool (D6 (⟨(Ag m2).fLast, ((Ag m2).fFl), ((Ag m2).fQ)⟩) z71 z72).2.1.fDup), .sc (.int .i64 ((D6 (⟨(Ag m2).fLast, ((Ag m2).fFl), ((Ag m2).fQ)⟩) z71 z72).2.1.fQos)), .sc (.bool (D6 (⟨(Ag m2).fLast, ((Ag m2).fFl), ((Ag m2).fQ)⟩) z71 z72).2.1.fRetain), .sc (.int .i64 ((D6 (⟨(Ag m2).fLast, ((Ag m2).fFl), ((Ag m2).fQ)⟩) z71 z72).2.1.fId)), .sc (.string ((D6 (⟨(Ag m2).fLast, ((Ag m2).fFl), ((Ag m2).fQ)⟩) z71 z72).2.1.fTopic)), x74, .sc (.string ((D6 (⟨(Ag m2).fLast, ((Ag m2).fFl), ((Ag m2).fQ)⟩) z71 z72).2.1.fClient)), .sc (.int .i64 ((D6 (⟨(Ag m2).fLast, ((Ag m2).fFl), ((Ag m2).fQ)⟩) z71 z72).2.1.fLevel)), .sc (.bool (D6 (⟨(Ag m2).fLast, ((Ag m2).fFl), ((Ag m2).fQ)⟩) z71 z72).2.1.fClean), .sc (.int .i64 ((D6 (⟨(Ag m2).fLast, ((Ag m2).fFl), ((Ag m2).fQ)⟩) z71 z72).2.1.fKeep)), .sc (.bool (D6 (⟨(Ag m2).fLast, ((Ag m2).fFl), ((Ag m2).fQ)⟩) z71 z72).2.1.fHasWill), .sc (.string ((D6 (⟨(Ag m2).fLast, ((Ag m2).fFl), ((Ag m2).fQ)⟩) z71 z72).2.1.fWTopic)), x75, .sc (.int .i64 ((D6 (⟨(Ag m2).fLast, ((Ag m2).fFl), ((Ag m2).fQ)⟩) z71 z72).2.1.fWQos)), .sc (.bool (D6 (⟨(Ag m2).fLast, ((Ag m2).fFl), ((Ag m2).fQ)⟩) z71 z72).2.1.fWRetain), .sc (.bool (D6 (⟨(Ag m2).fLast, ((Ag m2).fFl), ((Ag m2).fQ)⟩) z71 z72).2.1.fHasUser), .sc (.string ((D6 (⟨(Ag m2).fLast, ((Ag m2).fFl), ((Ag m2).fQ)⟩) z71 z72).2.1.fUser)), .sc (.bool (D6 (⟨(Ag m2).fLast, ((Ag m2).fFl), ((Ag m2).fQ)⟩) z71 z72).2.1.fHasPass), x76, .sc (.int .i64 ((D6 (⟨(Ag m2).fLast, ((Ag m2).fFl), ((Ag m2).fQ)⟩) z71 z72).2.1.fCode)), .sc (.bool (D6 (⟨(Ag m2).fLast, ((Ag m2).fFl), ((Ag m2).fQ)⟩) z71 z72).2.1.fPresent), x77, x78, x79]) rfl (Eb (v := .sc (.bool (D6 (⟨(Ag m2).fLast, ((Ag m2).fFl), ((Ag m2).fQ)⟩) z71 z72).2.2)) rfl ?_))
    refine Bg (cs' := [.sc (.int .i64 ((D6 (⟨(Ag m2).fLast, ((Ag m2).fFl), ((Ag m2).fQ)⟩) z71 z72).1.fLast)), x80, x81]) s82 Of (Ac (Aa rfl (Aa lx80 (Aa lx81 rfl)))) rfl (A9 rfl) rfl fun H s83 => Ue (by omega) (by omega) ?_
    have e84 : OutB 80 (⟨(D6 (⟨(Ag m2).fLast, ((Ag m2).fFl), ((Ag m2).fQ)⟩) z71 z72).1.fLast, ((D6 (⟨(Ag m2).fLast, ((Ag m2).fFl), ((Ag m2).fQ)⟩) z71 z72).1.fFl), ((D6 (⟨(Ag m2).fLast, ((Ag m2).fFl), ((Ag m2).fQ)⟩) z71 z72).1.fQ)⟩ : A7) ∧ j ≤ 5 := by
     refine ⟨?_, by omega⟩; first | exact hinv.1 | exact J8 hinv.1 | exact V9 (J8 hinv.1) | (apply C0 <;> first | assumption | omega | (unfold Fb; omega) | (intro z hz; cases hz; done) | (show 0 + _ ≤ _; omega))
    exact ih m _ (⟨(D6 (⟨(Ag m2).fLast, ((Ag m2).fFl), ((Ag m2).fQ)⟩) z71 z72).1.fLast, ((D6 (⟨(Ag m2).fLast, ((Ag m2).fFl), ((Ag m2).fQ)⟩) z71 z72).1.fFl), ((D6 (⟨(Ag m2).fLast, ((Ag m2).fFl), ((Ag m2).fQ)⟩) z71 z72).1.fQ)⟩ : A7) x80 x81 i h _ (by omega) (by omega) lx80 lx81 e84 (s83.sel (.cons Ya (.cons Z8 (.cons D7 (.cons (.here) (.cons Ya zS8))))))
   refine K9 (Ci (decide_eq_true (by omega)) (Ae s0 Cq rfl ?_))
   have c39 := T0 (n + 2) (by omega) m2 (hinv.1.ok (by omega)) (zaz hinv.1.wt (by omega))
   refine I7 s0 rfl (.agg (.cons .sc (.cons (.own (by decide) (.here)) (.cons (.own (by decide) A1) .nil))) .nil) (c39) rfl (G9 ⟨_, rfl, rfl⟩ (J7 _) (G9 ⟨_, rfl, rfl⟩ (Eh _) (Ds Ha))) ?_
   rintro _ _ H ⟨_, _, _, _, rfl, rfl, ⟨x46, x47, lx46, lx47, rfl, rfl⟩, ⟨_, _, _, _, rfl, rfl, ⟨x40, x41, x42, x43, x44, x45, lx40, lx41, lx42, lx43, lx44, lx45, rfl, rfl⟩, ⟨_, rfl, ⟨rfl, rfl⟩⟩⟩⟩ s48
   simp only [zah, zar] at s48
   refine Eb (v := .agg [si ((Ag m2).fLast), x46, x47]) rfl (Eb (v := .agg [si ((B9 m2).fType), .sc (.bool (B9 m2).fDup), si ((B9 m2).fQos), .sc (.bool (B9 m2).fRetain), si ((B9 m2).fId), ss ((B9 m2).fTopic), x40, ss ((B9 m2).fClient), si ((B9 m2).fLevel), .sc (.bool (B9 m2).fClean), si ((B9 m2).fKeep), .sc (.bool (B9 m2).fHasWill), ss ((B9 m2).fWTopic), x41, si ((B9 m2).fWQos), .sc (.bool (B9 m2).fWRetain), .sc (.bool (B9 m2).fHasUser), ss ((B9 m2).fUser), .sc (.bool (B9 m2).fHasPass), x42, si ((B9 m2).fCode), .sc (.bool (B9 m2).fPresent), x43, x44, x45]) rfl (Eb (v := sb (Iw m2)) rfl (Bg (cs' := [si ((Ag m2).fLast), x46, x47]) s48 Of (Ac (Aa rfl (Aa lx46 (Aa lx47 rfl)))) rfl (A9 rfl) rfl fun H s49 => Am (o' := 1) rfl (A0 (c := x46) s49 (.here) rfl (Hv s49 Ya (K9 (Af ((decide (0 < ((((Ag m2).fFl).length : Nat) : Int)))) (fun h50 => ?_) fun h50 => ?_)))))))
   refine A6 h50 (A6 h50 (Xh hcode (by omega) s49 Of fun b51 iq52 hq52 H sq52 => G8 h50 (Af (b51) (fun h53 => ?_) fun h53 => ?_)))
   refine Ci h53 (Am (o' := 1) rfl (Am (o' := 1) rfl (A0 (c := x46) sq52 A1 rfl (Hv sq52 D7 (Gd.bothE ?_ ?_)))))
   refine A0 (c := x46) sq52 A1 rfl (Gd.bothE ?_ ?_)
   refine Gj (m := ((((Ag m2).fFl).length : Nat) : Int)) hcode (by omega) sq52 (.here) fun z54 iq55 hq55 H hz54 sq55 => ?_
   have s56 := sq55.toShs D7
   obtain ⟨y57, he58⟩ : ∃ y, ((Ag m2).fFl)[(z54).toNat]? = some y := ⟨_, zam (by first | omega | (simp at *; omega))⟩
   refine J6 (y := y57) s56 ⟨_, _, rfl, rfl, rfl, rfl⟩ (.here) (by omega) he58 A5 Du rfl fun de58 oe58 raw hl hlf re58 hsc se58 => ?_
   obtain ⟨e58r2, le58r2, rfl⟩ := H0 hl hlf hsc
   clear hl hlf hsc
   refine N7 re58 (Dc se58 fun i59 H s60 => Bg (cs' := [si y57.fId, ss y57.fM.fTopic, e58r2, si y57.fM.fQos, sb y57.fM.fRetain, si y57.fSt]) s60 (.here) (Ac (Aa rfl (Aa rfl (Aa le58r2 rfl)))) rfl (A9 rfl) rfl fun H s61 => Am (o' := 0) rfl (Gd.bothE ?_ ?_))
   refine Ae s61 Cq rfl (Gd.bothE ?_ ?_)
   refine Bk (cs := [si 4, si 5, si 7]) rfl (Bz s61 fun i62 H s63 => Gd.bothE ?_ ?_)
   refine Dd hcode (by omega) (by omega) rfl s63 Cq (.here) fun z64a iq65 hq65 H mz64 sq65 => ?_
   have s66 := (sq65.pick A1).tail
   obtain ⟨z64, rfl, hz64⟩ := Ay (l := [4, 5, 7]) (lo := 4) (hi := 7) mz64 (by decide)
   refine A0 (c := si y57.fId) s66 A1 rfl ?_
   have s67 := s66.ofShs Bu
   exact tl68 x46 x47 z64 y57.fId iq65 hq65 _ lx46 lx47 (s67.sel (.cons (.here) (.cons D7 (.cons (.here) (.cons A1 (.cons D7 Iz))))))
   refine A0 (c := si y57.fId) s63 A1 rfl (Dd hcode (by omega) (by omega) rfl s63 Cq (.here) fun z85a iq86 hq86 H mz85 sq86 => ?_)
   have s87 := (sq86.pick A1).tail
   obtain ⟨z85, rfl, hz85⟩ := Ay (l := [4, 5, 7]) (lo := 4) (hi := 7) mz85 (by decide)
   have s88 := s87.ofShs Bu
   exact tl68 x46 x47 z85 y57.fId iq86 hq86 _ lx46 lx47 (s88.sel (.cons (.here) (.cons D7 (.cons (.here) (.cons A1 (.cons D7 Iz))))))
   refine A0 (c := si y57.fId) s61 (.here) rfl (Bk (cs := [si 4, si 5, si 7]) rfl (Bz s61 fun i89 H s90 => Dd hcode (by omega) (by omega) rfl s90 Cq (.here) fun z91a iq92 hq92 H mz91 sq92 => ?_))
   have s93 := (sq92.pick A1).tail
   obtain ⟨z91, rfl, hz91⟩ := Ay (l := [4, 5, 7]) (lo := 4) (hi := 7) mz91 (by decide)
   have s94 := s93.ofShs Bu
   exact tl68 x46 x47 z91 y57.fId iq92 hq92 _ lx46 lx47 (s94.sel (.cons (.here) (.cons D7 (.cons (.here) (.cons A1 (.cons D7 Iz))))))
   refine Gd.bothE ?_ ?_
   refine Bk (cs := [si 4, si 5, si 7]) rfl (Bz s61 fun i95 H s96 => Gd.bothE ?_ ?_)
   refine Ae s96 E2 rfl (Gd.bothE ?_ ?_)
   refine Dd hcode (by omega) (by omega) rfl s96 Cq (.here) fun z97a iq98 hq98 H mz97 sq98 => ?_
   have s99 := (sq98.pick A1).tail
   obtain ⟨z97, rfl, hz97⟩ := Ay (l := [4, 5, 7]) (lo := 4) (hi := 7) mz97 (by decide)
   refine A0 (c := si y57.fId) s99 A1 rfl ?_
   have s100 := s99.ofShs Bu
   exact tl68 x46 x47 z97 y57.fId iq98 hq98 _ lx46 lx47 (s100.sel (.cons (.here) (.cons D7 (.cons (.here) (.cons A1 (.cons D7 Iz))))))
   refine A0 (c := si y57.fId) s96 A1 rfl (Dd hcode (by omega) (by omega) rfl s96 Cq (.here) fun z101a iq102 hq102 H mz101 sq102 => ?_)
   have s103 := (sq102.pick A1).tail
   obtain ⟨z101, rfl, hz101⟩ := Ay (l := [4, 5, 7]) (lo := 4) (hi := 7) mz101 (by decide)
   have s104 := s103.ofShs Bu
   exact tl68 x46 x47 z101 y57.fId iq102 hq102 _ lx46 lx47 (s104.sel (.cons (.here) (.cons D7 (.cons (.here) (.cons A1 (.cons D7 Iz))))))
   refine Gd.bothE ?_ ?_
   refine Dd hcode (by omega) (by omega) rfl s96 Cq (.here) fun z105a iq106 hq106 H mz105 sq106 => ?_
   have s107 := (sq106.pick A1).tail
   obtain ⟨z105, rfl, hz105⟩ := Ay (l := [4, 5, 7]) (lo := 4) (hi := 7) mz105 (by decide)
   refine Ae s107 Cq rfl (A0 (c := si y57.fId) s107 A1 rfl ?_)
   have s108 := s107.ofShs Bu
   exact tl68 x46 x47 z105 y57.fId iq106 hq106 _ lx46 lx47 (s108.sel (.cons (.here) (.cons D7 (.cons (.here) (.cons A1 (.cons D7 Iz))))))
   refine A0 (c := si y57.fId) s96 A1 rfl (Gd.bothE ?_ ?_)
   refine Ae s96 E2 rfl (Dd hcode (by omega) (by omega) rfl s96 Cq (.here) fun z109a iq110 hq110 H mz109 sq110 => ?_)
   have s111 := (sq110.pick A1).tail
   obtain ⟨z109, rfl, hz109⟩ := Ay (l := [4, 5, 7]) (lo := 4) (hi := 7) mz109 (by decide)
   have s112 := s111.ofShs Bu
   exact tl68 x46 x47 z109 y57.fId iq110 hq110 _ lx46 lx47 (s112.sel (.cons (.here) (.cons D7 (.cons (.here) (.cons A1 (.cons D7 Iz))))))
   refine Dd hcode (by omega) (by omega) rfl s96 Cq (.here) fun z113a iq114 hq114 H mz113 sq114 => ?_
   have s115 := (sq114.pick A1).tail
   obtain ⟨z113, rfl, hz113⟩ := Ay (l := [4, 5, 7]) (lo := 4) (hi := 7) mz113 (by decide)
   refine Ae s115 Cq rfl ?_
   have s116 := s115.ofShs Bu
   exact tl68 x46 x47 z113 y57.fId iq114 hq114 _ lx46 lx47 (s116.sel (.cons (.here) (.cons D7 (.cons (.here) (.cons A1 (.cons D7 Iz))))))
   refine A0 (c := si y57.fId) s61 (.here) rfl (Gd.bothE ?_ ?_)
   refine Ae s61 Cq rfl (Bk (cs := [si 4, si 5, si 7]) rfl (Bz s61 fun i117 H s118 => Dd hcode (by omega) (by omega) rfl s118 Cq (.here) fun z119a iq120 hq120 H mz119 sq120 => ?_))
   have s121 := (sq120.pick A1).tail
   obtain ⟨z119, rfl, hz119⟩ := Ay (l := [4, 5, 7]) (lo := 4) (hi := 7) mz119 (by decide)
   have s122 := s121.ofShs Bu
   exact tl68 x46 x47 z119 y57.fId iq120 hq120 _ lx46 lx47 (s122.sel (.cons (.here) (.cons D7 (.cons (.here) (.cons A1 (.cons D7 Iz))))))
   refine Bk (cs := [si 4, si 5, si 7]) rfl (Bz s61 fun i123 H s124 => Gd.bothE ?_ ?_)
   refine Ae s124 E2 rfl (Dd hcode (by omega) (by omega) rfl s124 Cq (.here) fun z125a iq126 hq126 H mz125 sq126 => ?_)
   have s127 := (sq126.pick A1).tail
   obtain ⟨z125, rfl, hz125⟩ := Ay (l := [4, 5, 7]) (lo := 4) (hi := 7) mz125 (by decide)
   have s128 := s127.ofShs Bu
   exact tl68 x46 x47 z125 y57.fId iq126 hq126 _ lx46 lx47 (s128.sel (.cons (.here) (.cons D7 (.cons (.here) (.cons A1 (.cons D7 Iz))))))
   refine Dd hcode (by omega) (by omega) rfl s124 Cq (.here) fun z129a iq130 hq130 H mz129 sq130 => ?_
   have s131 := (sq130.pick A1).tail
   obtain ⟨z129, rfl, hz129⟩ := Ay (l := [4, 5, 7]) (lo := 4) (hi := 7) mz129 (by decide)
   refine Ae s131 Cq rfl ?_
   have s132 := s131.ofShs Bu
   exact tl68 x46 x47 z129 y57.fId iq130 hq130 _ lx46 lx47 (s132.sel (.cons (.here) (.cons D7 (.cons (.here) (.cons A1 (.cons D7 Iz))))))
   refine Dc sq52 fun i133 H s134 => Gj (m := ((((Ag m2).fFl).length : Nat) : Int)) hcode (by omega) s134 A1 fun z135 iq136 hq136 H hz135 sq136 => ?_
   have s137 := sq136.toShs Nn
   obtain ⟨y138, he139⟩ : ∃ y, ((Ag m2).fFl)[(z135).toNat]? = some y := ⟨_, zam (by first | omega | (simp at *; omega))⟩
   refine J6 (y := y138) s137 ⟨_, _, rfl, rfl, rfl, rfl⟩ (.here) (by omega) he139 A5 Du rfl fun de139 oe139 raw hl hlf re139 hsc se139 => ?_
   obtain ⟨e139r2, le139r2, rfl⟩ := H0 hl hlf hsc
   clear hl hlf hsc
   refine N7 re139 (Bg (cs' := [si y138.fId, ss y138.fM.fTopic, e139r2, si y138.fM.fQos, sb y138.fM.fRetain, si y138.fSt]) se139 Bu (Ac (Aa rfl (Aa rfl (Aa le139r2 rfl)))) rfl (A9 rfl) rfl fun H s140 => Am (o' := 0) rfl (Gd.bothE ?_ ?_))
   refine Ae s140 Cq rfl (Gd.bothE ?_ ?_)
   refine Bk (cs := [si 4, si 5, si 7]) rfl (Bz s140 fun i141 H s142 => Gd.bothE ?_ ?_)
   refine Dd hcode (by omega) (by omega) rfl s142 Cq (.here) fun z143a iq144 hq144 H mz143 sq144 => ?_
   have s145 := (sq144.pick A1).tail
   obtain ⟨z143, rfl, hz143⟩ := Ay (l := [4, 5, 7]) (lo := 4) (hi := 7) mz143 (by decide)
   refine A0 (c := si y138.fId) s145 A1 rfl ?_
   have s146 := s145.ofShs Bu
   exact tl68 x46 x47 z143 y138.fId iq144 hq144 _ lx46 lx47 (s146.sel (.cons (.here) (.cons D7 (.cons (.here) (.cons A1 (.cons D7 Iz))))))
   refine A0 (c := si y138.fId) s142 A1 rfl (Dd hcode (by omega) (by omega) rfl s142 Cq (.here) fun z147a iq148 hq148 H mz147 sq148 => ?_)
   have s149 := (sq148.pick A1).tail
   obtain ⟨z147, rfl, hz147⟩ := Ay (l := [4, 5, 7]) (lo := 4) (hi := 7) mz147 (by decide)
   have s150 := s149.ofShs Bu
   exact tl68 x46 x47 z147 y138.fId iq148 hq148 _ lx46 lx47 (s150.sel (.cons (.here) (.cons D7 (.cons (.here) (.cons A1 (.cons D7 Iz))))))
   refine A0 (c := si y138.fId) s140 (.here) rfl (Bk (cs := [si 4, si 5, si 7]) rfl (Bz s140 fun i151 H s152 => Dd hcode (by omega) (by omega) rfl s152 Cq (.here) fun z153a iq154 hq154 H mz153 sq154 => ?_))
   have s155 := (sq154.pick A1).tail
   obtain ⟨z153, rfl, hz153⟩ := Ay (l := [4, 5, 7]) (lo := 4) (hi := 7) mz153 (by decide)
   have s156 := s155.ofShs Bu
   exact tl68 x46 x47 z153 y138.fId iq154 hq154 _ lx46 lx47 (s156.sel (.cons (.here) (.cons D7 (.cons (.here) (.cons A1 (.cons D7 Iz))))))
   refine Gd.bothE ?_ ?_
   refine Bk (cs := [si 4, si 5, si 7]) rfl (Bz s140 fun i157 H s158 => Gd.bothE ?_ ?_)
   refine Ae s158 E2 rfl (Gd.bothE ?_ ?_)
   refine Dd hcode (by omega) (by omega) rfl s158 Cq (.here) fun z159a iq160 hq160 H mz159 sq160 => ?_
   have s161 := (sq160.pick A1).tail
   obtain ⟨z159, rfl, hz159⟩ := Ay (l := [4, 5, 7]) (lo := 4) (hi := 7) mz159 (by decide)
   refine A0 (c := si y138.fId) s161 A1 rfl ?_
   have s162 := s161.ofShs Bu
   exact tl68 x46 x47 z159 y138.fId iq160 hq160 _ lx46 lx47 (s162.sel (.cons (.here) (.cons D7 (.cons (.here) (.cons A1 (.cons D7 Iz))))))
   refine A0 (c := si y138.fId) s158 A1 rfl (Dd hcode (by omega) (by omega) rfl s158 Cq (.here) fun z163a iq164 hq164 H mz163 sq164 => ?_)
   have s165 := (sq164.pick A1).tail
   obtain ⟨z163, rfl, hz163⟩ := Ay (l := [4, 5, 7]) (lo := 4) (hi := 7) mz163 (by decide)
   have s166 := s165.ofShs Bu
   exact tl68 x46 x47 z163 y138.fId iq164 hq164 _ lx46 lx47 (s166.sel (.cons (.here) (.cons D7 (.cons (.here) (.cons A1 (.cons D7 Iz))))))
   refine Gd.bothE ?_ ?_
   refine Dd hcode (by omega) (by omega) rfl s158 Cq (.here) fun z167a iq168 hq168 H mz167 sq168 => ?_
   have s169 := (sq168.pick A1).tail
   obtain ⟨z167, rfl, hz167⟩ := Ay (l := [4, 5, 7]) (lo := 4) (hi := 7) mz167 (by decide)
   refine Ae s169 Cq rfl (A0 (c := si y138.fId) s169 A1 rfl ?_)
   have s170 := s169.ofShs Bu
   exact tl68 x46 x47 z167 y138.fId iq168 hq168 _ lx46 lx47 (s170.sel (.cons (.here) (.cons D7 (.cons (.here) (.cons A1 (.cons D7 Iz))))))
   refine A0 (c := si y138.fId) s158 A1 rfl (Gd.bothE ?_ ?_)
   refine Ae s158 E2 rfl (Dd hcode (by omega) (by omega) rfl s158 Cq (.here) fun z171a iq172 hq172 H mz171 sq172 => ?_)
   have s173 := (sq172.pick A1).tail
   obtain ⟨z171, rfl, hz171⟩ := Ay (l := [4, 5, 7]) (lo := 4) (hi := 7) mz171 (by decide)
   have s174 := s173.ofShs Bu
   exact tl68 x46 x47 z171 y138.fId iq172 hq172 _ lx46 lx47 (s174.sel (.cons (.here) (.cons D7 (.cons (.here) (.cons A1 (.cons D7 Iz))))))
   refine Dd hcode (by omega) (by omega) rfl s158 Cq (.here) fun z175a iq176 hq176 H mz175 sq176 => ?_
   have s177 := (sq176.pick A1).tail
   obtain ⟨z175, rfl, hz175⟩ := Ay (l := [4, 5, 7]) (lo := 4) (hi := 7) mz175 (by decide)
   refine Ae s177 Cq rfl ?_
   have s178 := s177.ofShs Bu
   exact tl68 x46 x47 z175 y138.fId iq176 hq176 _ lx46 lx47 (s178.sel (.cons (.here) (.cons D7 (.cons (.here) (.cons A1 (.cons D7 Iz))))))
   refine A0 (c := si y138.fId) s140 (.here) rfl (Gd.bothE ?_ ?_)
   refine Ae s140 Cq rfl (Bk (cs := [si 4, si 5, si 7]) rfl (Bz s140 fun i179 H s180 => Dd hcode (by omega) (by omega) rfl s180 Cq (.here) fun z181a iq182 hq182 H mz181 sq182 => ?_))
   have s183 := (sq182.pick A1).tail
   obtain ⟨z181, rfl, hz181⟩ := Ay (l := [4, 5, 7]) (lo := 4) (hi := 7) mz181 (by decide)
   have s184 := s183.ofShs Bu
   exact tl68 x46 x47 z181 y138.fId iq182 hq182 _ lx46 lx47 (s184.sel (.cons (.here) (.cons D7 (.cons (.here) (.cons A1 (.cons D7 Iz))))))
   refine Bk (cs := [si 4, si 5, si 7]) rfl (Bz s140 fun i185 H s186 => Gd.bothE ?_ ?_)
   refine Ae s186 E2 rfl (Dd hcode (by omega) (by omega) rfl s186 Cq (.here) fun z187a iq188 hq188 H mz187 sq188 => ?_)
   have s189 := (sq188.pick A1).tail
   obtain ⟨z187, rfl, hz187⟩ := Ay (l := [4, 5, 7]) (lo := 4) (hi := 7) mz187 (by decide)
   have s190 := s189.ofShs Bu
   exact tl68 x46 x47 z187 y138.fId iq188 hq188 _ lx46 lx47 (s190.sel (.cons (.here) (.cons D7 (.cons (.here) (.cons A1 (.cons D7 Iz))))))
   refine Dd hcode (by omega) (by omega) rfl s186 Cq (.here) fun z191a iq192 hq192 H mz191 sq192 => ?_
   have s193 := (sq192.pick A1).tail
   obtain ⟨z191, rfl, hz191⟩ := Ay (l := [4, 5, 7]) (lo := 4) (hi := 7) mz191 (by decide)
   refine Ae s193 Cq rfl ?_
   have s194 := s193.ofShs Bu
   exact tl68 x46 x47 z191 y138.fId iq192 hq192 _ lx46 lx47 (s194.sel (.cons (.here) (.cons D7 (.cons (.here) (.cons A1 (.cons D7 Iz))))))
   refine Gd.bothE ?_ ?_
   refine Gj (m := ((((Ag m2).fFl).length : Nat) : Int)) hcode (by omega) sq52 (.here) fun z195 iq196 hq196 H hz195 sq196 => A0 (c := x46) sq196 A1 rfl ?_
   have s197 := sq196.toShs D7
   obtain ⟨y198, he199⟩ : ∃ y, ((Ag m2).fFl)[(z195).toNat]? = some y := ⟨_, zam (by first | omega | (simp at *; omega))⟩
   refine J6 (y := y198) s197 ⟨_, _, rfl, rfl, rfl, rfl⟩ (.here) (by omega) he199 A5 Du rfl fun de199 oe199 raw hl hlf re199 hsc se199 => ?_
   obtain ⟨e199r2, le199r2, rfl⟩ := H0 hl hlf hsc
   clear hl hlf hsc
   refine N7 re199 (Dc se199 fun i200 H s201 => Bg (cs' := [si y198.fId, ss y198.fM.fTopic, e199r2, si y198.fM.fQos, sb y198.fM.fRetain, si y198.fSt]) s201 (.here) (Ac (Aa rfl (Aa rfl (Aa le199r2 rfl)))) rfl (A9 rfl) rfl fun H s202 => Am (o' := 0) rfl (Gd.bothE ?_ ?_))
   refine Ae s202 Cq rfl (Gd.bothE ?_ ?_)
   refine Bk (cs := [si 4, si 5, si 7]) rfl (Bz s202 fun i203 H s204 => Gd.bothE ?_ ?_)
   refine Dd hcode (by omega) (by omega) rfl s204 Cq (.here) fun z205a iq206 hq206 H mz205 sq206 => ?_
   have s207 := (sq206.pick A1).tail
   obtain ⟨z205, rfl, hz205⟩ := Ay (l := [4, 5, 7]) (lo := 4) (hi := 7) mz205 (by decide)
   refine A0 (c := si y198.fId) s207 A1 rfl ?_
   have s208 := s207.ofShs Bu
   exact tl68 x46 x47 z205 y198.fId iq206 hq206 _ lx46 lx47 (s208.sel (.cons (.here) (.cons D7 (.cons (.here) (.cons A1 (.cons D7 Iz))))))
   refine A0 (c := si y198.fId) s204 A1 rfl (Dd hcode (by omega) (by omega) rfl s204 Cq (.here) fun z209a iq210 hq210 H mz209 sq210 => ?_)
   have s211 := (sq210.pick A1).tail
   obtain ⟨z209, rfl, hz209⟩ := Ay (l := [4, 5, 7]) (lo := 4) (hi := 7) mz209 (by decide)
   have s212 := s211.ofShs Bu
   exact tl68 x46 x47 z209 y198.fId iq210 hq210 _ lx46 lx47 (s212.sel (.cons (.here) (.cons D7 (.cons (.here) (.cons A1 (.cons D7 Iz))))))
   refine A0 (c := si y198.fId) s202 (.here) rfl (Bk (cs := [si 4, si 5, si 7]) rfl (Bz s202 fun i213 H s214 => Dd hcode (by omega) (by omega) rfl s214 Cq (.here) fun z215a iq216 hq216 H mz215 sq216 => ?_))
   have s217 := (sq216.pick A1).tail
   obtain ⟨z215, rfl, hz215⟩ := Ay (l := [4, 5, 7]) (lo := 4) (hi := 7) mz215 (by decide)
   have s218 := s217.ofShs Bu
   exact tl68 x46 x47 z215 y198.fId iq216 hq216 _ lx46 lx47 (s218.sel (.cons (.here) (.cons D7 (.cons (.here) (.cons A1 (.cons D7 Iz))))))
   refine Gd.bothE ?_ ?_
   refine Bk (cs := [si 4, si 5, si 7]) rfl (Bz s202 fun i219 H s220 => Gd.bothE ?_ ?_)
   refine Ae s220 E2 rfl (Gd.bothE ?_ ?_)
   refine Dd hcode (by omega) (by omega) rfl s220 Cq (.here) fun z221a iq222 hq222 H mz221 sq222 => ?_
   have s223 := (sq222.pick A1).tail
   obtain ⟨z221, rfl, hz221⟩ := Ay (l := [4, 5, 7]) (lo := 4) (hi := 7) mz221 (by decide)
   refine A0 (c := si y198.fId) s223 A1 rfl ?_
   have s224 := s223.ofShs Bu
   exact tl68 x46 x47 z221 y198.fId iq222 hq222 _ lx46 lx47 (s224.sel (.cons (.here) (.cons D7 (.cons (.here) (.cons A1 (.cons D7 Iz))))))
   refine A0 (c := si y198.fId) s220 A1 rfl (Dd hcode (by omega) (by omega) rfl s220 Cq (.here) fun z225a iq226 hq226 H mz225 sq226 => ?_)
   have s227 := (sq226.pick A1).tail
   obtain ⟨z225, rfl, hz225⟩ := Ay (l := [4, 5, 7]) (lo := 4) (hi := 7) mz225 (by decide)
   have s228 := s227.ofShs Bu
   exact tl68 x46 x47 z225 y198.fId iq226 hq226 _ lx46 lx47 (s228.sel (.cons (.here) (.cons D7 (.cons (.here) (.cons A1 (.cons D7 Iz))))))
   refine Gd.bothE ?_ ?_
   refine Dd hcode (by omega) (by omega) rfl s220 Cq (.here) fun z229a iq230 hq230 H mz229 sq230 => ?_
   have s231 := (sq230.pick A1).tail
   obtain ⟨z229, rfl, hz229⟩ := Ay (l := [4, 5, 7]) (lo := 4) (hi := 7) mz229 (by decide)
   refine Ae s231 Cq rfl (A0 (c := si y198.fId) s231 A1 rfl ?_)
   have s232 := s231.ofShs Bu
   exact tl68 x46 x47 z229 y198.fId iq230 hq230 _ lx46 lx47 (s232.sel (.cons (.here) (.cons D7 (.cons (.here) (.cons A1 (.cons D7 Iz))))))
   refine A0 (c := si y198.fId) s220 A1 rfl (Gd.bothE ?_ ?_)
   refine Ae s220 E2 rfl (Dd hcode (by omega) (by omega) rfl s220 Cq (.here) fun z233a iq234 hq234 H mz233 sq234 => ?_)
   have s235 := (sq234.pick A1).tail
   obtain ⟨z233, rfl, hz233⟩ := Ay (l := [4, 5, 7]) (lo := 4) (hi := 7) mz233 (by decide)
   have s236 := s235.ofShs Bu
   exact tl68 x46 x47 z233 y198.fId iq234 hq234 _ lx46 lx47 (s236.sel (.cons (.here) (.cons D7 (.cons (.here) (.cons A1 (.cons D7 Iz))))))
   refine Dd hcode (by omega) (by omega) rfl s220 Cq (.here) fun z237a iq238 hq238 H mz237 sq238 => ?_
   have s239 := (sq238.pick A1).tail
   obtain ⟨z237, rfl, hz237⟩ := Ay (l := [4, 5, 7]) (lo := 4) (hi := 7) mz237 (by decide)
   refine Ae s239 Cq rfl ?_
   have s240 := s239.ofShs Bu
   exact tl68 x46 x47 z237 y198.fId iq238 hq238 _ lx46 lx47 (s240.sel (.cons (.here) (.cons D7 (.cons (.here) (.cons A1 (.cons D7 Iz))))))
   refine A0 (c := si y198.fId) s202 (.here) rfl (Gd.bothE ?_ ?_)
   refine Ae s202 Cq rfl (Bk (cs := [si 4, si 5, si 7]) rfl (Bz s202 fun i241 H s242 => Dd hcode (by omega) (by omega) rfl s242 Cq (.here) fun z243a iq244 hq244 H mz243 sq244 => ?_))
   have s245 := (sq244.pick A1).tail
   obtain ⟨z243, rfl, hz243⟩ := Ay (l := [4, 5, 7]) (lo := 4) (hi := 7) mz243 (by decide)
   have s246 := s245.ofShs Bu
   exact tl68 x46 x47 z243 y198.fId iq244 hq244 _ lx46 lx47 (s246.sel (.cons (.here) (.cons D7 (.cons (.here) (.cons A1 (.cons D7 Iz))))))
   refine Bk (cs := [si 4, si 5, si 7]) rfl (Bz s202 fun i247 H s248 => Gd.bothE ?_ ?_)
   refine Ae s248 E2 rfl (Dd hcode (by omega) (by omega) rfl s248 Cq (.here) fun z249a iq250 hq250 H mz249 sq250 => ?_)
   have s251 := (sq250.pick A1).tail
   obtain ⟨z249, rfl, hz249⟩ := Ay (l := [4, 5, 7]) (lo := 4) (hi := 7) mz249 (by decide)
   have s252 := s251.ofShs Bu
   exact tl68 x46 x47 z249 y198.fId iq250 hq250 _ lx46 lx47 (s252.sel (.cons (.here) (.cons D7 (.cons (.here) (.cons A1 (.cons D7 Iz))))))
   refine Dd hcode (by omega) (by omega) rfl s248 Cq (.here) fun z253a iq254 hq254 H mz253 sq254 => ?_
   have s255 := (sq254.pick A1).tail
   obtain ⟨z253, rfl, hz253⟩ := Ay (l := [4, 5, 7]) (lo := 4) (hi := 7) mz253 (by decide)
   refine Ae s255 Cq rfl ?_
   have s256 := s255.ofShs Bu
   exact tl68 x46 x47 z253 y198.fId iq254 hq254 _ lx46 lx47 (s256.sel (.cons (.here) (.cons D7 (.cons (.here) (.cons A1 (.cons D7 Iz))))))
   refine Dc sq52 fun i257 H s258 => Gd.bothE ?_ ?_
   refine A0 (c := x46) s258 Bu rfl (Gj (m := ((((Ag m2).fFl).length : Nat) : Int)) hcode (by omega) s258 A1 fun z259 iq260 hq260 H hz259 sq260 => ?_)
   have s261 := sq260.toShs Nn
   obtain ⟨y262, he263⟩ : ∃ y, ((Ag m2).fFl)[(z259).toNat]? = some y := ⟨_, zam (by first | omega | (simp at *; omega))⟩
   refine J6 (y := y262) s261 ⟨_, _, rfl, rfl, rfl, rfl⟩ (.here) (by omega) he263 A5 Du rfl fun de263 oe263 raw hl hlf re263 hsc se263 => ?_
   obtain ⟨e263r2, le263r2, rfl⟩ := H0 hl hlf hsc
   clear hl hlf hsc
   refine N7 re263 (Bg (cs' := [si y262.fId, ss y262.fM.fTopic, e263r2, si y262.fM.fQos, sb y262.fM.fRetain, si y262.fSt]) se263 Bu (Ac (Aa rfl (Aa rfl (Aa le263r2 rfl)))) rfl (A9 rfl) rfl fun H s264 => Am (o' := 0) rfl (Gd.bothE ?_ ?_))
   refine Ae s264 Cq rfl (Gd.bothE ?_ ?_)
   refine Bk (cs := [si 4, si 5, si 7]) rfl (Bz s264 fun i265 H s266 => Gd.bothE ?_ ?_)
   refine Dd hcode (by omega) (by omega) rfl s266 Cq (.here) fun z267a iq268 hq268 H mz267 sq268 => ?_
   have s269 := (sq268.pick A1).tail
   obtain ⟨z267, rfl, hz267⟩ := Ay (l := [4, 5, 7]) (lo := 4) (hi := 7) mz267 (by decide)
   refine A0 (c := si y262.fId) s269 A1 rfl ?_
   have s270 := s269.ofShs Bu
   exact tl68 x46 x47 z267 y262.fId iq268 hq268 _ lx46 lx47 (s270.sel (.cons (.here) (.cons D7 (.cons (.here) (.cons A1 (.cons D7 Iz))))))
   refine A0 (c := si y262.fId) s266 A1 rfl (Dd hcode (by omega) (by omega) rfl s266 Cq (.here) fun z271a iq272 hq272 H mz271 sq272 => ?_)
   have s273 := (sq272.pick A1).tail
   obtain ⟨z271, rfl, hz271⟩ := Ay (l := [4, 5, 7]) (lo := 4) (hi := 7) mz271 (by decide)
   have s274 := s273.ofShs Bu
   exact tl68 x46 x47 z271 y262.fId iq272 hq272 _ lx46 lx47 (s274.sel (.cons (.here) (.cons D7 (.cons (.here) (.cons A1 (.cons D7 Iz))))))
   refine A0 (c := si y262.fId) s264 (.here) rfl (Bk (cs := [si 4, si 5, si 7]) rfl (Bz s264 fun i275 H s276 => Dd hcode (by omega) (by omega) rfl s276 Cq (.here) fun z277a iq278 hq278 H mz277 sq278 => ?_))
   have s279 := (sq278.pick A1).tail
   obtain ⟨z277, rfl, hz277⟩ := Ay (l := [4, 5, 7]) (lo := 4) (hi := 7) mz277 (by decide)
   have s280 := s279.ofShs Bu
   exact tl68 x46 x47 z277 y262.fId iq278 hq278 _ lx46 lx47 (s280.sel (.cons (.here) (.cons D7 (.cons (.here) (.cons A1 (.cons D7 Iz))))))
   refine Gd.bothE ?_ ?_
   refine Bk (cs := [si 4, si 5, si 7]) rfl (Bz s264 fun i281 H s282 => Gd.bothE ?_ ?_)
   refine Ae s282 E2 rfl (Gd.bothE ?_ ?_)
   refine Dd hcode (by omega) (by omega) rfl s282 Cq (.here) fun z283a iq284 hq284 H mz283 sq284 => ?_
   have s285 := (sq284.pick A1).tail
   obtain ⟨z283, rfl, hz283⟩ := Ay (l := [4, 5, 7]) (lo := 4) (hi := 7) mz283 (by decide)
   refine A0 (c := si y262.fId) s285 A1 rfl ?_
   have s286 := s285.ofShs Bu
   exact tl68 x46 x47 z283 y262.fId iq284 hq284 _ lx46 lx47 (s286.sel (.cons (.here) (.cons D7 (.cons (.here) (.cons A1 (.cons D7 Iz))))))
   refine A0 (c := si y262.fId) s282 A1 rfl (Dd hcode (by omega) (by omega) rfl s282 Cq (.here) fun z287a iq288 hq288 H mz287 sq288 => ?_)
   have s289 := (sq288.pick A1).tail
   obtain ⟨z287, rfl, hz287⟩ := Ay (l := [4, 5, 7]) (lo := 4) (hi := 7) mz287 (by decide)
   have s290 := s289.ofShs Bu
   exact tl68 x46 x47 z287 y262.fId iq288 hq288 _ lx46 lx47 (s290.sel (.cons (.here) (.cons D7 (.cons (.here) (.cons A1 (.cons D7 Iz))))))
   refine Gd.bothE ?_ ?_
   refine Dd hcode (by omega) (by omega) rfl s282 Cq (.here) fun z291a iq292 hq292 H mz291 sq292 => ?_
   have s293 := (sq292.pick A1).tail
   obtain ⟨z291, rfl, hz291⟩ := Ay (l := [4, 5, 7]) (lo := 4) (hi := 7) mz291 (by decide)
   refine Ae s293 Cq rfl (A0 (c := si y262.fId) s293 A1 rfl ?_)
   have s294 := s293.ofShs Bu
   exact tl68 x46 x47 z291 y262.fId iq292 hq292 _ lx46 lx47 (s294.sel (.cons (.here) (.cons D7 (.cons (.here) (.cons A1 (.cons D7 Iz))))))
   refine A0 (c := si y262.fId) s282 A1 rfl (Gd.bothE ?_ ?_)
   refine Ae s282 E2 rfl (Dd hcode (by omega) (by omega) rfl s282 Cq (.here) fun z295a iq296 hq296 H mz295 sq296 => ?_)
   have s297 := (sq296.pick A1).tail
   obtain ⟨z295, rfl, hz295⟩ := Ay (l := [4, 5, 7]) (lo := 4) (hi := 7) mz295 (by decide)
   have s298 := s297.ofShs Bu
   exact tl68 x46 x47 z295 y262.fId iq296 hq296 _ lx46 lx47 (s298.sel (.cons (.here) (.cons D7 (.cons (.here) (.cons A1 (.cons D7 Iz))))))
   refine Dd hcode (by omega) (by omega) rfl s282 Cq (.here) fun z299a iq300 hq300 H mz299 sq300 => ?_
   have s301 := (sq300.pick A1).tail
   obtain ⟨z299, rfl, hz299⟩ := Ay (l := [4, 5, 7]) (lo := 4) (hi := 7) mz299 (by decide)
   refine Ae s301 Cq rfl ?_
   have s302 := s301.ofShs Bu
   exact tl68 x46 x47 z299 y262.fId iq300 hq300 _ lx46 lx47 (s302.sel (.cons (.here) (.cons D7 (.cons (.here) (.cons A1 (.cons D7 Iz))))))
   refine A0 (c := si y262.fId) s264 (.here) rfl (Gd.bothE ?_ ?_)
   refine Ae s264 Cq rfl (Bk (cs := [si 4, si 5, si 7]) rfl (Bz s264 fun i303 H s304 => Dd hcode (by omega) (by omega) rfl s304 Cq (.here) fun z305a iq306 hq306 H mz305 sq306 => ?_))
   have s307 := (sq306.pick A1).tail
   obtain ⟨z305, rfl, hz305⟩ := Ay (l := [4, 5, 7]) (lo := 4) (hi := 7) mz305 (by decide)
   have s308 := s307.ofShs Bu
   exact tl68 x46 x47 z305 y262.fId iq306 hq306 _ lx46 lx47 (s308.sel (.cons (.here) (.cons D7 (.cons (.here) (.cons A1 (.cons D7 Iz))))))
   refine Bk (cs := [si 4, si 5, si 7]) rfl (Bz s264 fun i309 H s310 => Gd.bothE ?_ ?_)
   refine Ae s310 E2 rfl (Dd hcode (by omega) (by omega) rfl s310 Cq (.here) fun z311a iq312 hq312 H mz311 sq312 => ?_)
   have s313 := (sq312.pick A1).tail
   obtain ⟨z311, rfl, hz311⟩ := Ay (l := [4, 5, 7]) (lo := 4) (hi := 7) mz311 (by decide)
   have s314 := s313.ofShs Bu
   exact tl68 x46 x47 z311 y262.fId iq312 hq312 _ lx46 lx47 (s314.sel (.cons (.here) (.cons D7 (.cons (.here) (.cons A1 (.cons D7 Iz))))))
   refine Dd hcode (by omega) (by omega) rfl s310 Cq (.here) fun z315a iq316 hq316 H mz315 sq316 => ?_
   have s317 := (sq316.pick A1).tail
   obtain ⟨z315, rfl, hz315⟩ := Ay (l := [4, 5, 7]) (lo := 4) (hi := 7) mz315 (by decide)
   refine Ae s317 Cq rfl ?_
   have s318 := s317.ofShs Bu
   exact tl68 x46 x47 z315 y262.fId iq316 hq316 _ lx46 lx47 (s318.sel (.cons (.here) (.cons D7 (.cons (.here) (.cons A1 (.cons D7 Iz))))))
   refine Gj (m := ((((Ag m2).fFl).length : Nat) : Int)) hcode (by omega) s258 A1 fun z319 iq320 hq320 H hz319 sq320 => A0 (c := x46) sq320 Bu rfl ?_
   have s321 := sq320.toShs Nn
   obtain ⟨y322, he323⟩ : ∃ y, ((Ag m2).fFl)[(z319).toNat]? = some y := ⟨_, zam (by first | omega | (simp at *; omega))⟩
   refine J6 (y := y322) s321 ⟨_, _, rfl, rfl, rfl, rfl⟩ (.here) (by omega) he323 A5 Du rfl fun de323 oe323 raw hl hlf re323 hsc se323 => ?_
   obtain ⟨e323r2, le323r2, rfl⟩ := H0 hl hlf hsc
   clear hl hlf hsc
   refine N7 re323 (Bg (cs' := [si y322.fId, ss y322.fM.fTopic, e323r2, si y322.fM.fQos, sb y322.fM.fRetain, si y322.fSt]) se323 Bu (Ac (Aa rfl (Aa rfl (Aa le323r2 rfl)))) rfl (A9 rfl) rfl fun H s324 => Am (o' := 0) rfl (Gd.bothE ?_ ?_))
   refine Ae s324 Cq rfl (Gd.bothE ?_ ?_)
   refine Bk (cs := [si 4, si 5, si 7]) rfl (Bz s324 fun i325 H s326 => Gd.bothE ?_ ?_)
   refine Dd hcode (by omega) (by omega) rfl s326 Cq (.here) fun z327a iq328 hq328 H mz327 sq328 => ?_
   have s329 := (sq328.pick A1).tail
   obtain ⟨z327, rfl, hz327⟩ := Ay (l := [4, 5, 7]) (lo := 4) (hi := 7) mz327 (by decide)
   refine A0 (c := si y322.fId) s329 A1 rfl ?_
   have s330 := s329.ofShs Bu
   exact tl68 x46 x47 z327 y322.fId iq328 hq328 _ lx46 lx47 (s330.sel (.cons (.here) (.cons D7 (.cons (.here) (.cons A1 (.cons D7 Iz))))))
   refine A0 (c := si y322.fId) s326 A1 rfl (Dd hcode (by omega) (by omega) rfl s326 Cq (.here) fun z331a iq332 hq332 H mz331 sq332 => ?_)
   have s333 := (sq332.pick A1).tail
   obtain ⟨z331, rfl, hz331⟩ := Ay (l := [4, 5, 7]) (lo := 4) (hi := 7) mz331 (by decide)
   have s334 := s333.ofShs Bu
   exact tl68 x46 x47 z331 y322.fId iq332 hq332 _ lx46 lx47 (s334.sel (.cons (.here) (.cons D7 (.cons (.here) (.cons A1 (.cons D7 Iz))))))
   refine A0 (c := si y322.fId) s324 (.here) rfl (Bk (cs := [si 4, si 5, si 7]) rfl (Bz s324 fun i335 H s336 => Dd hcode (by omega) (by omega) rfl s336 Cq (.here) fun z337a iq338 hq338 H mz337 sq338 => ?_))
   have s339 := (sq338.pick A1).tail
   obtain ⟨z337, rfl, hz337⟩ := Ay (l := [4, 5, 7]) (lo := 4) (hi := 7) mz337 (by decide)
   have s340 := s339.ofShs Bu
   exact tl68 x46 x47 z337 y322.fId iq338 hq338 _ lx46 lx47 (s340.sel (.cons (.here) (.cons D7 (.cons (.here) (.cons A1 (.cons D7 Iz))))))
   refine Gd.bothE ?_ ?_
   refine Bk (cs := [si 4, si 5, si 7]) rfl (Bz s324 fun i341 H s342 => Gd.bothE ?_ ?_)
   refine Ae s342 E2 rfl (Gd.bothE ?_ ?_)
   refine Dd hcode (by omega) (by omega) rfl s342 Cq (.here) fun z343a iq344 hq344 H mz343 sq344 => ?_
   have s345 := (sq344.pick A1).tail
   obtain ⟨z343, rfl, hz343⟩ := Ay (l := [4, 5, 7]) (lo := 4) (hi := 7) mz343 (by decide)
   refine A0 (c := si y322.fId) s345 A1 rfl ?_
   have s346 := s345.ofShs Bu
   exact tl68 x46 x47 z343 y322.fId iq344 hq344 _ lx46 lx47 (s346.sel (.cons (.here) (.cons D7 (.cons (.here) (.cons A1 (.cons D7 Iz))))))
   refine A0 (c := si y322.fId) s342 A1 rfl (Dd hcode (by omega) (by omega) rfl s342 Cq (.here) fun z347a iq348 hq348 H mz347 sq348 => ?_)
   have s349 := (sq348.pick A1).tail
   obtain ⟨z347, rfl, hz347⟩ := Ay (l := [4, 5, 7]) (lo := 4) (hi := 7) mz347 (by decide)
   have s350 := s349.ofShs Bu
   exact tl68 x46 x47 z347 y322.fId iq348 hq348 _ lx46 lx47 (s350.sel (.cons (.here) (.cons D7 (.cons (.here) (.cons A1 (.cons D7 Iz))))))
   refine Gd.bothE ?_ ?_
   refine Dd hcode (by omega) (by omega) rfl s342 Cq (.here) fun z351a iq352 hq352 H mz351 sq352 => ?_
   have s353 := (sq352.pick A1).tail
   obtain ⟨z351, rfl, hz351⟩ := Ay (l := [4, 5, 7]) (lo := 4) (hi := 7) mz351 (by decide)
   refine Ae s353 Cq rfl (A0 (c := si y322.fId) s353 A1 rfl ?_)
   have s354 := s353.ofShs Bu
   exact tl68 x46 x47 z351 y322.fId iq352 hq352 _ lx46 lx47 (s354.sel (.cons (.here) (.cons D7 (.cons (.here) (.cons A1 (.cons D7 Iz))))))
   refine A0 (c := si y322.fId) s342 A1 rfl (Gd.bothE ?_ ?_)
   refine Ae s342 E2 rfl (Dd hcode (by omega) (by omega) rfl s342 Cq (.here) fun z355a iq356 hq356 H mz355 sq356 => ?_)
   have s357 := (sq356.pick A1).tail
   obtain ⟨z355, rfl, hz355⟩ := Ay (l := [4, 5, 7]) (lo := 4) (hi := 7) mz355 (by decide)
   have s358 := s357.ofShs Bu
   exact tl68 x46 x47 z355 y322.fId iq356 hq356 _ lx46 lx47 (s358.sel (.cons (.here) (.cons D7 (.cons (.here) (.cons A1 (.cons D7 Iz))))))
   refine Dd hcode (by omega) (by omega) rfl s342 Cq (.here) fun z359a iq360 hq360 H mz359 sq360 => ?_
   have s361 := (sq360.pick A1).tail
   obtain ⟨z359, rfl, hz359⟩ := Ay (l := [4, 5, 7]) (lo := 4) (hi := 7) mz359 (by decide)
   refine Ae s361 Cq rfl ?_
   have s362 := s361.ofShs Bu
   exact tl68 x46 x47 z359 y322.fId iq360 hq360 _ lx46 lx47 (s362.sel (.cons (.here) (.cons D7 (.cons (.here) (.cons A1 (.cons D7 Iz))))))
   refine A0 (c := si y322.fId) s324 (.here) rfl (Gd.bothE ?_ ?_)
   refine Ae s324 Cq rfl (Bk (cs := [si 4, si 5, si 7]) rfl (Bz s324 fun i363 H s364 => Dd hcode (by omega) (by omega) rfl s364 Cq (.here) fun z365a iq366 hq366 H mz365 sq366 => ?_))
   have s367 := (sq366.pick A1).tail
   obtain ⟨z365, rfl, hz365⟩ := Ay (l := [4, 5, 7]) (lo := 4) (hi := 7) mz365 (by decide)
   have s368 := s367.ofShs Bu
   exact tl68 x46 x47 z365 y322.fId iq366 hq366 _ lx46 lx47 (s368.sel (.cons (.here) (.cons D7 (.cons (.here) (.cons A1 (.cons D7 Iz))))))
   refine Bk (cs := [si 4, si 5, si 7]) rfl (Bz s324 fun i369 H s370 => Gd.bothE ?_ ?_)
   refine Ae s370 E2 rfl (Dd hcode (by omega) (by omega) rfl s370 Cq (.here) fun z371a iq372 hq372 H mz371 sq372 => ?_)
   have s373 := (sq372.pick A1).tail
   obtain ⟨z371, rfl, hz371⟩ := Ay (l := [4, 5, 7]) (lo := 4) (hi := 7) mz371 (by decide)
   have s374 := s373.ofShs Bu
   exact tl68 x46 x47 z371 y322.fId iq372 hq372 _ lx46 lx47 (s374.sel (.cons (.here) (.cons D7 (.cons (.here) (.cons A1 (.cons D7 Iz))))))
   refine Dd hcode (by omega) (by omega) rfl s370 Cq (.here) fun z375a iq376 hq376 H mz375 sq376 => ?_
   have s377 := (sq376.pick A1).tail
   obtain ⟨z375, rfl, hz375⟩ := Ay (l := [4, 5, 7]) (lo := 4) (hi := 7) mz375 (by decide)
   refine Ae s377 Cq rfl ?_
   have s378 := s377.ofShs Bu
   exact tl68 x46 x47 z375 y322.fId iq376 hq376 _ lx46 lx47 (s378.sel (.cons (.here) (.cons D7 (.cons (.here) (.cons A1 (.cons D7 Iz))))))
   refine Bt h53 (Ue (by omega) (by omega) ?_)
   have e379 : OutB 80 (⟨(Ag m2).fLast, ((Ag m2).fFl), ((Ag m2).fQ)⟩ : A7) ∧ j ≤ 5 := by
    refine ⟨?_, by omega⟩; first | exact hinv.1 | exact J8 hinv.1 | exact V9 (J8 hinv.1) | (apply C0 <;> first | assumption | omega | (unfold Fb; omega) | (intro z hz; cases hz; done) | (show 0 + _ ≤ _; omega))
   exact ih m _ (⟨(Ag m2).fLast, ((Ag m2).fFl), ((Ag m2).fQ)⟩ : A7) x46 x47 iq52 hq52 _ (by omega) (by omega) lx46 lx47 e379 (sq52.sel (.cons D7 (.cons Ya (.cons (.here) (.cons (.here) (.cons Ya zS8))))))
   refine Dx h50 (Dx h50 (F3 h50 (Bt rfl (Ue (by omega) (by omega) ?_))))
   have e380 : OutB 80 (⟨(Ag m2).fLast, ((Ag m2).fFl), ((Ag m2).fQ)⟩ : A7) ∧ j ≤ 5 := by
    refine ⟨?_, by omega⟩; first | exact hinv.1 | exact J8 hinv.1 | exact V9 (J8 hinv.1) | (apply C0 <;> first | assumption | omega | (unfold Fb; omega) | (intro z hz; cases hz; done) | (show 0 + _ ≤ _; omega))
   exact ih m _ (⟨(Ag m2).fLast, ((Ag m2).fFl), ((Ag m2).fQ)⟩ : A7) x46 x47 i h _ (by omega) (by omega) lx46 lx47 e380 (s49.sel (.cons Ya (.cons Z8 (.cons D7 (.cons (.here) (.cons Ya zS8))))))
 have s381 := sq15.nl (ty := 24) ⟨_, _, rfl, rfl⟩
 have e382 : OutB 80 (⟨z5, [], r11⟩ : A7) ∧ (z14).toNat ≤ 5 := by
  refine ⟨?_, by omega⟩; first | exact hinv.1 | exact J8 hinv.1 | exact V9 (J8 hinv.1) | (apply C0 <;> first | assumption | omega | (unfold Fb; omega) | (intro z hz; cases hz; done) | (show 0 + _ ≤ _; omega))
 exact lp16 (z14).toNat _ _ (⟨z5, [], r11⟩ : A7) .nl r11x iq15 hq15 _ (by omega) (by omega) rfl lr11x e382 (s381.sel (.cons (.here) (.cons Bu (.cons (.here) (.cons (.here) (.cons (.here) .rest))))))
theorem Vq (n : Nat) (hn : 1048576 < n) (code : ByteArray) (hcode : code.size ≤ 1048576) (c i : Nat) (h : Int)   {β : Type} {r : Option β} {KH : KO β} {H : Ab} {L : List Ck} (s0 : Sep H (Cr c code i h :: L)) (hk : ∀ (r0 : A7) (r0x1 : AV) (r0x2 : AV) (i' : Nat) (h' : Int) (H' : Ab), (Ap r0x1 = true) → (Ap r0x2 = true) → (OutB 400 r0) → Sep H' (.own r0x1 24 (Ai Aq r0.fFl) :: .own r0x2 25 (Ai Aj r0.fQ) :: Cr c code i' h' :: L) → Gd (· = r) (KH (.agg [.sc (.int .i64 r0.fLast), r0x1, r0x2]) H')) : Gd (· = r) (Di E0 (n + 18) β 41 [.ptr c 0] H fun x H => KH x H) := by
 rw [Ah1, f41]
 try simp only [C2, Bv, B3, Bm, Bs, Bh, A2, B7, Ca, Bx, C6]
 refine Dc s0 fun i1 H s2 => Hh rfl rfl (Aez _ (by omega) code hcode c i h   (s2.pick A1) fun r3 r3x1 r3x2 iq4 hq4 H lr3x1 lr3x2 hr3 sq4 => ?_)
 have kr3 := hr3
 obtain ⟨⟨oar3, obr3, ocr3⟩, wr3⟩ := kr3
 have gr3 := Hn hr3
 refine Dc sq4 fun i5 H s6 => Bg (cs' := [si r3.fLast, r3x1, r3x2]) s6 (.here) (Ac (Aa rfl (Aa lr3x1 (Aa lr3x2 rfl)))) rfl (A9 rfl) rfl fun H s7 => Gj (m := 14) hcode (by omega) s7 Cq fun z8 iq9 hq9 H hz8 sq9 => ?_
 replace hz8 : 0 ≤ z8 ∧ z8 < 14 := by omega
 refine Bp (Af ((decide (z8 = 0))) (fun h10 => ?_) fun h10 => ?_)
 refine Ci h10 (Bk (cs := [si (-1), si 65536]) rfl (Bz sq9 fun i11 H s12 => Dd hcode (by omega) (by omega) rfl s12 A1 (.here) fun z13a iq14 hq14 H mz13 sq14 => ?_))
 have s15 := (sq14.pick A1).tail
 obtain ⟨z13, rfl, hz13⟩ := Ay (l := [(-1), 65536]) (lo := -1) (hi := 65536) mz13 (by decide)
 refine Am (o' := 0) rfl (B0 s15 A1 rfl rfl fun H s16 => Ae s16 (.here) rfl (Bg (cs' := [si z13, r3x1, r3x2]) s16 E2 (Ac (Aa rfl (Aa lr3x1 (Aa lr3x2 rfl)))) rfl (A9 rfl) rfl fun H s17 => Ae s17 (.here) rfl ?_))
 have e18 : OutB 400 (⟨z13, r3.fFl, r3.fQ⟩ : A7) := by
  apply C0 <;> first | assumption | omega | (unfold Fb; omega) | (refine za4.2 ⟨by assumption, ?_⟩; intro z hz; simp only [za2, zaI, or_false] at hz; rcases hz with rfl | rfl <;> (simp only [Bw, Cp, Ll, Fb]; decide)) | (rw [E9]; exact zaz (za9 (zaD (by decide : Fm As _ ≤ 4) _) _) (by omega))
 exact hk (⟨z13, r3.fFl, r3.fQ⟩ : A7) r3x1 r3x2 iq14 hq14 _ lr3x1 lr3x2 e18 (s17.sel (.cons Cq (.cons Cq (.cons Bu V1))))
 refine Bt h10 (Bp (Af ((decide (z8 = 1))) (fun h19 => ?_) fun h19 => ?_))
 refine Ci h19 (Hh rfl rfl (AbW _ (by omega) code hcode c iq9 hq9   (sq9.pick (.here)) fun r20 r20x iq21 hq21 H lr20x hr20 sq21 => ?_))
 obtain ⟨or20, wr20⟩ := hr20
 have gr20 := Iy Bo r20
 refine Am (o' := 2) rfl (B0 sq21 Bu lr20x rfl fun H s22 => Ae s22 (.here) rfl (Bg (cs' := [si r3.fLast, r3x1, r20x]) s22 Nk (Ac (Aa rfl (Aa lr3x1 (Aa lr20x rfl)))) rfl (A9 rfl) rfl fun H s23 => Ae s23 (.here) rfl ?_))
 have e24 : OutB 400 (⟨r3.fLast, r3.fFl, r20⟩ : A7) := by
  apply C0 <;> first | assumption | omega | (unfold Fb; omega) | (refine za4.2 ⟨by assumption, ?_⟩; intro z hz; simp only [za2, zaI, or_false] at hz; rcases hz with rfl | rfl <;> (simp only [Bw, Cp, Ll, Fb]; decide)) | (rw [E9]; exact zaz (za9 (zaD (by decide : Fm As _ ≤ 4) _) _) (by omega))
 exact hk (⟨r3.fLast, r3.fFl, r20⟩ : A7) r3x1 r20x iq21 hq21 _ lr3x1 lr20x e24 (s23.sel (.cons E2 (.cons Bu (.cons Bu Yb))))
 refine Bt h19 (Bp (Af ((decide (z8 = 2))) (fun h25 => ?_) fun h25 => ?_))
 refine Ci h25 (Am (o' := 1) rfl (A0 (c := r3x1) sq9 A1 rfl (Hv sq9 Bu (K9 (Af ((decide (0 < ((r3.fFl.length : Nat) : Int)))) (fun h26 => ?_) fun h26 => ?_)))))
 refine Ci h26 (Am (o' := 1) rfl (Gd.bothE ?_ ?_))
 refine A0 (c := r3x1) sq9 A1 rfl (Bk (cs := [i0, si 1, si 2, si 65536]) rfl (Bz sq9 fun i27 H s28 => Dd hcode (by omega) (by omega) rfl s28 A1 (.here) fun z29a iq30 hq30 H mz29 sq30 => ?_))
 have s31 := (sq30.pick A1).tail
 obtain ⟨z29, rfl, hz29⟩ := Ay (l := [0, 1, 2, 65536]) (lo := 0) (hi := 65536) mz29 (by decide)
 obtain ⟨y33, he32⟩ : ∃ y, (r3.fFl)[(0 : Int).toNat]? = some y := ⟨_, zam (by first | omega | (simp at *; omega))⟩
 refine Ik (y := y33) (y' := ({ y33 with fId := z29 } : Ad)) (k := 0) (v := (.int .i64 y33.fId)) s31 ⟨_, _, rfl, rfl, rfl, rfl⟩ Bu (by omega) he32 A5 (by omega) rfl rfl rfl fun H s34 => ?_
 have he32sy := Kv (p := Bw) obr3 he32
 have he32sw := Jn As (r3.fFl) (0 : Int).toNat y33 ({ y33 with fId := z29 } : Ad) he32
 have he32sv : As ({ y33 with fId := z29 } : Ad) = As y33 ∨ As ({ y33 with fId := z29 } : Ad) ≤ 102 := by first | exact .inl rfl | (right; show Bo _ + 0 ≤ 102; omega)
 have he32so : Bw ({ y33 with fId := z29 } : Ad) := ⟨by first | exact he32sy.1 | (simp only [Fb]; omega), by first | exact he32sy.2.1 | assumption, by first | exact he32sy.2.2 | (simp only [Fb]; omega)⟩
 have he32sa := Ki (p := Bw) (i := (0 : Int).toNat) obr3 he32so
 refine Ae s34 Bu rfl (Bg (cs' := [si r3.fLast, r3x1, r3x2]) s34 E2 (Ac (Aa rfl (Aa lr3x1 (Aa lr3x2 rfl)))) rfl (A9 rfl) rfl fun H s35 => Ae s35 (.here) rfl ?_)
 have e36 : OutB 400 (⟨r3.fLast, (r3.fFl.set (0 : Int).toNat ({ y33 with fId := z29 } : Ad)), r3.fQ⟩ : A7) := by
  apply C0 <;> first | assumption | omega | (unfold Fb; omega) | (refine za4.2 ⟨by assumption, ?_⟩; intro z hz; simp only [za2, zaI, or_false] at hz; rcases hz with rfl | rfl <;> (simp only [Bw, Cp, Ll, Fb]; decide)) | (rw [E9]; exact zaz (za9 (zaD (by decide : Fm As _ ≤ 4) _) _) (by omega))
 exact hk (⟨r3.fLast, (r3.fFl.set (0 : Int).toNat ({ y33 with fId := z29 } : Ad)), r3.fQ⟩ : A7) r3x1 r3x2 iq30 hq30 _ lr3x1 lr3x2 e36 (s35.sel (.cons A1 (.cons Cq (.cons A1 V1))))
 refine Bk (cs := [i0, si 1, si 2, si 65536]) rfl (Bz sq9 fun i37 H s38 => Gd.bothE ?_ ?_)
 refine A0 (c := r3x1) s38 Bu rfl (Dd hcode (by omega) (by omega) rfl s38 A1 (.here) fun z39a iq40 hq40 H mz39 sq40 => ?_)
 have s41 := (sq40.pick A1).tail
 obtain ⟨z39, rfl, hz39⟩ := Ay (l := [0, 1, 2, 65536]) (lo := 0) (hi := 65536) mz39 (by decide)
 obtain ⟨y43, he42⟩ : ∃ y, (r3.fFl)[(0 : Int).toNat]? = some y := ⟨_, zam (by first | omega | (simp at *; omega))⟩
 refine Ik (y := y43) (y' := ({ y43 with fId := z39 } : Ad)) (k := 0) (v := (.int .i64 y43.fId)) s41 ⟨_, _, rfl, rfl, rfl, rfl⟩ Bu (by omega) he42 A5 (by omega) rfl rfl rfl fun H s44 => ?_
 have he42sy := Kv (p := Bw) obr3 he42
 have he42sw := Jn As (r3.fFl) (0 : Int).toNat y43 ({ y43 with fId := z39 } : Ad) he42
 have he42sv : As ({ y43 with fId := z39 } : Ad) = As y43 ∨ As ({ y43 with fId := z39 } : Ad) ≤ 102 := by first | exact .inl rfl | (right; show Bo _ + 0 ≤ 102; omega)
 have he42so : Bw ({ y43 with fId := z39 } : Ad) := ⟨by first | exact he42sy.1 | (simp only [Fb]; omega), by first | exact he42sy.2.1 | assumption, by first | exact he42sy.2.2 | (simp only [Fb]; omega)⟩
 have he42sa := Ki (p := Bw) (i := (0 : Int).toNat) obr3 he42so
 refine Ae s44 Bu rfl (Bg (cs' := [si r3.fLast, r3x1, r3x2]) s44 E2 (Ac (Aa rfl (Aa lr3x1 (Aa lr3x2 rfl)))) rfl (A9 rfl) rfl fun H s45 => Ae s45 (.here) rfl ?_)
 have e46 : OutB 400 (⟨r3.fLast, (r3.fFl.set (0 : Int).toNat ({ y43 with fId := z39 } : Ad)), r3.fQ⟩ : A7) := by
  apply C0 <;> first | assumption | omega | (unfold Fb; omega) | (refine za4.2 ⟨by assumption, ?_⟩; intro z hz; simp only [za2, zaI, or_false] at hz; rcases hz with rfl | rfl <;> (simp only [Bw, Cp, Ll, Fb]; decide)) | (rw [E9]; exact zaz (za9 (zaD (by decide : Fm As _ ≤ 4) _) _) (by omega))
 exact hk (⟨r3.fLast, (r3.fFl.set (0 : Int).toNat ({ y43 with fId := z39 } : Ad)), r3.fQ⟩ : A7) r3x1 r3x2 iq40 hq40 _ lr3x1 lr3x2 e46 (s45.sel (.cons A1 (.cons Cq (.cons A1 V1))))
 refine Dd hcode (by omega) (by omega) rfl s38 A1 (.here) fun z47a iq48 hq48 H mz47 sq48 => ?_
 have s49 := (sq48.pick A1).tail
 obtain ⟨z47, rfl, hz47⟩ := Ay (l := [0, 1, 2, 65536]) (lo := 0) (hi := 65536) mz47 (by decide)
 refine A0 (c := r3x1) s49 A1 rfl ?_
 obtain ⟨y51, he50⟩ : ∃ y, (r3.fFl)[(0 : Int).toNat]? = some y := ⟨_, zam (by first | omega | (simp at *; omega))⟩
 refine Ik (y := y51) (y' := ({ y51 with fId := z47 } : Ad)) (k := 0) (v := (.int .i64 y51.fId)) s49 ⟨_, _, rfl, rfl, rfl, rfl⟩ Bu (by omega) he50 A5 (by omega) rfl rfl rfl fun H s52 => ?_
 have he50sy := Kv (p := Bw) obr3 he50
 have he50sw := Jn As (r3.fFl) (0 : Int).toNat y51 ({ y51 with fId := z47 } : Ad) he50
 have he50sv : As ({ y51 with fId := z47 } : Ad) = As y51 ∨ As ({ y51 with fId := z47 } : Ad) ≤ 102 := by first | exact .inl rfl | (right; show Bo _ + 0 ≤ 102; omega)
 have he50so : Bw ({ y51 with fId := z47 } : Ad) := ⟨by first | exact he50sy.1 | (simp only [Fb]; omega), by first | exact he50sy.2.1 | assumption, by first | exact he50sy.2.2 | (simp only [Fb]; omega)⟩
 have he50sa := Ki (p := Bw) (i := (0 : Int).toNat) obr3 he50so
 refine Ae s52 Bu rfl (Bg (cs' := [si r3.fLast, r3x1, r3x2]) s52 E2 (Ac (Aa rfl (Aa lr3x1 (Aa lr3x2 rfl)))) rfl (A9 rfl) rfl fun H s53 => Ae s53 (.here) rfl ?_)
 have e54 : OutB 400 (⟨r3.fLast, (r3.fFl.set (0 : Int).toNat ({ y51 with fId := z47 } : Ad)), r3.fQ⟩ : A7) := by
  apply C0 <;> first | assumption | omega | (unfold Fb; omega) | (refine za4.2 ⟨by assumption, ?_⟩; intro z hz; simp only [za2, zaI, or_false] at hz; rcases hz with rfl | rfl <;> (simp only [Bw, Cp, Ll, Fb]; decide)) | (rw [E9]; exact zaz (za9 (zaD (by decide : Fm As _ ≤ 4) _) _) (by omega))
 exact hk (⟨r3.fLast, (r3.fFl.set (0 : Int).toNat ({ y51 with fId := z47 } : Ad)), r3.fQ⟩ : A7) r3x1 r3x2 iq48 hq48 _ lr3x1 lr3x2 e54 (s53.sel (.cons A1 (.cons Cq (.cons A1 V1))))
 refine Bt h26 (Ae sq9 A1 rfl (Bg (cs' := [si r3.fLast, r3x1, r3x2]) sq9 E2 (Ac (Aa rfl (Aa lr3x1 (Aa lr3x2 rfl)))) rfl (A9 rfl) rfl fun H s55 => Ae s55 (.here) rfl ?_))
 have e56 : OutB 400 (r3 : A7) := by
  apply C0 <;> first | assumption | omega | (unfold Fb; omega) | (refine za4.2 ⟨by assumption, ?_⟩; intro z hz; simp only [za2, zaI, or_false] at hz; rcases hz with rfl | rfl <;> (simp only [Bw, Cp, Ll, Fb]; decide)) | (rw [E9]; exact zaz (za9 (zaD (by decide : Fm As _ ≤ 4) _) _) (by omega))
 exact hk (r3 : A7) r3x1 r3x2 iq9 hq9 _ lr3x1 lr3x2 e56 (s55.sel (.cons Cq (.cons Cq (.cons A1 V1))))
 refine Bt h25 (Bp (Af ((decide (z8 = 3))) (fun h57 => ?_) fun h57 => ?_))
 refine Ci h57 (Am (o' := 1) rfl (A0 (c := r3x1) sq9 A1 rfl (Hv sq9 Bu (K9 (Af ((decide (0 < ((r3.fFl.length : Nat) : Int)))) (fun h58 => ?_) fun h58 => ?_)))))
 refine Ci h58 (Am (o' := 1) rfl (Gd.bothE ?_ ?_))
 refine A0 (c := r3x1) sq9 A1 rfl (Bk (cs := [i0, si 1, si 2, si 3, si 4]) rfl (Bz sq9 fun i59 H s60 => Dd hcode (by omega) (by omega) rfl s60 A1 (.here) fun z61a iq62 hq62 H mz61 sq62 => ?_))
 have s63 := (sq62.pick A1).tail
 obtain ⟨z61, rfl, hz61⟩ := Ay (l := [0, 1, 2, 3, 4]) (lo := 0) (hi := 4) mz61 (by decide)
 obtain ⟨y65, he64⟩ : ∃ y, (r3.fFl)[(0 : Int).toNat]? = some y := ⟨_, zam (by first | omega | (simp at *; omega))⟩
 refine Ik (y := y65) (y' := ({ y65 with fSt := z61 } : Ad)) (k := 5) (v := (.int .i64 y65.fSt)) s63 ⟨_, _, rfl, rfl, rfl, rfl⟩ Bu (by omega) he64 A5 (by omega) rfl rfl rfl fun H s66 => ?_
 have he64sy := Kv (p := Bw) obr3 he64
 have he64sw := Jn As (r3.fFl) (0 : Int).toNat y65 ({ y65 with fSt := z61 } : Ad) he64
 have he64sv : As ({ y65 with fSt := z61 } : Ad) = As y65 ∨ As ({ y65 with fSt := z61 } : Ad) ≤ 102 := by first | exact .inl rfl | (right; show Bo _ + 0 ≤ 102; omega)
 have he64so : Bw ({ y65 with fSt := z61 } : Ad) := ⟨by first | exact he64sy.1 | (simp only [Fb]; omega), by first | exact he64sy.2.1 | assumption, by first | exact he64sy.2.2 | (simp only [Fb]; omega)⟩
 have he64sa := Ki (p := Bw) (i := (0 : Int).toNat) obr3 he64so
 refine Ae s66 Bu rfl (Bg (cs' := [si r3.fLast, r3x1, r3x2]) s66 E2 (Ac (Aa rfl (Aa lr3x1 (Aa lr3x2 rfl)))) rfl (A9 rfl) rfl fun H s67 => Ae s67 (.here) rfl ?_)
 have e68 : OutB 400 (⟨r3.fLast, (r3.fFl.set (0 : Int).toNat ({ y65 with fSt := z61 } : Ad)), r3.fQ⟩ : A7) := by
  apply C0 <;> first | assumption | omega | (unfold Fb; omega) | (refine za4.2 ⟨by assumption, ?_⟩; intro z hz; simp only [za2, zaI, or_false] at hz; rcases hz with rfl | rfl <;> (simp only [Bw, Cp, Ll, Fb]; decide)) | (rw [E9]; exact zaz (za9 (zaD (by decide : Fm As _ ≤ 4) _) _) (by omega))
 exact hk (⟨r3.fLast, (r3.fFl.set (0 : Int).toNat ({ y65 with fSt := z61 } : Ad)), r3.fQ⟩ : A7) r3x1 r3x2 iq62 hq62 _ lr3x1 lr3x2 e68 (s67.sel (.cons A1 (.cons Cq (.cons A1 V1))))
 refine Bk (cs := [i0, si 1, si 2, si 3, si 4]) rfl (Bz sq9 fun i69 H s70 => Gd.bothE ?_ ?_)
 refine A0 (c := r3x1) s70 Bu rfl (Dd hcode (by omega) (by omega) rfl s70 A1 (.here) fun z71a iq72 hq72 H mz71 sq72 => ?_)
 have s73 := (sq72.pick A1).tail
 obtain ⟨z71, rfl, hz71⟩ := Ay (l := [0, 1, 2, 3, 4]) (lo := 0) (hi := 4) mz71 (by decide)
 obtain ⟨y75, he74⟩ : ∃ y, (r3.fFl)[(0 : Int).toNat]? = some y := ⟨_, zam (by first | omega | (simp at *; omega))⟩
 refine Ik (y := y75) (y' := ({ y75 with fSt := z71 } : Ad)) (k := 5) (v := (.int .i64 y75.fSt)) s73 ⟨_, _, rfl, rfl, rfl, rfl⟩ Bu (by omega) he74 A5 (by omega) rfl rfl rfl fun H s76 => ?_
 have he74sy := Kv (p := Bw) obr3 he74
 have he74sw := Jn As (r3.fFl) (0 : Int).toNat y75 ({ y75 with fSt := z71 } : Ad) he74
 have he74sv : As ({ y75 with fSt := z71 } : Ad) = As y75 ∨ As ({ y75 with fSt := z71 } : Ad) ≤ 102 := by first | exact .inl rfl | (right; show Bo _ + 0 ≤ 102; omega)
 have he74so : Bw ({ y75 with fSt := z71 } : Ad) := ⟨by first | exact he74sy.1 | (simp only [Fb]; omega), by first | exact he74sy.2.1 | assumption, by first | exact he74sy.2.2 | (simp only [Fb]; omega)⟩
 have he74sa := Ki (p := Bw) (i := (0 : Int).toNat) obr3 he74so
 refine Ae s76 Bu rfl (Bg (cs' := [si r3.fLast, r3x1, r3x2]) s76 E2 (Ac (Aa rfl (Aa lr3x1 (Aa lr3x2 rfl)))) rfl (A9 rfl) rfl fun H s77 => Ae s77 (.here) rfl ?_)
 have e78 : OutB 400 (⟨r3.fLast, (r3.fFl.set (0 : Int).toNat ({ y75 with fSt := z71 } : Ad)), r3.fQ⟩ : A7) := by
  apply C0 <;> first | assumption | omega | (unfold Fb; omega) | (refine za4.2 ⟨by assumption, ?_⟩; intro z hz; simp only [za2, zaI, or_false] at hz; rcases hz with rfl | rfl <;> (simp only [Bw, Cp, Ll, Fb]; decide)) | (rw [E9]; exact zaz (za9 (zaD (by decide : Fm As _ ≤ 4) _) _) (by omega))
 exact hk (⟨r3.fLast, (r3.fFl.set (0 : Int).toNat ({ y75 with fSt := z71 } : Ad)), r3.fQ⟩ : A7) r3x1 r3x2 iq72 hq72 _ lr3x1 lr3x2 e78 (s77.sel (.cons A1 (.cons Cq (.cons A1 V1))))
 refine Dd hcode (by omega) (by omega) rfl s70 A1 (.here) fun z79a iq80 hq80 H mz79 sq80 => ?_
 have s81 := (sq80.pick A1).tail
 obtain ⟨z79, rfl, hz79⟩ := Ay (l := [0, 1, 2, 3, 4]) (lo := 0) (hi := 4) mz79 (by decide)
 refine A0 (c := r3x1) s81 A1 rfl ?_
 obtain ⟨y83, he82⟩ : ∃ y, (r3.fFl)[(0 : Int).toNat]? = some y := ⟨_, zam (by first | omega | (simp at *; omega))⟩
 refine Ik (y := y83) (y' := ({ y83 with fSt := z79 } : Ad)) (k := 5) (v := (.int .i64 y83.fSt)) s81 ⟨_, _, rfl, rfl, rfl, rfl⟩ Bu (by omega) he82 A5 (by omega) rfl rfl rfl fun H s84 => ?_
 have he82sy := Kv (p := Bw) obr3 he82
 have he82sw := Jn As (r3.fFl) (0 : Int).toNat y83 ({ y83 with fSt := z79 } : Ad) he82
 have he82sv : As ({ y83 with fSt := z79 } : Ad) = As y83 ∨ As ({ y83 with fSt := z79 } : Ad) ≤ 102 := by first | exact .inl rfl | (right; show Bo _ + 0 ≤ 102; omega)
 have he82so : Bw ({ y83 with fSt := z79 } : Ad) := ⟨by first | exact he82sy.1 | (simp only [Fb]; omega), by first | exact he82sy.2.1 | assumption, by first | exact he82sy.2.2 | (simp only [Fb]; omega)⟩
 have he82sa := Ki (p := Bw) (i := (0 : Int).toNat) obr3 he82so
 refine Ae s84 Bu rfl (Bg (cs' := [si r3.fLast, r3x1, r3x2]) s84 E2 (Ac (Aa rfl (Aa lr3x1 (Aa lr3x2 rfl)))) rfl (A9 rfl) rfl fun H s85 => Ae s85 (.here) rfl ?_)
 have e86 : OutB 400 (⟨r3.fLast, (r3.fFl.set (0 : Int).toNat ({ y83 with fSt := z79 } : Ad)), r3.fQ⟩ : A7) := by
  apply C0 <;> first | assumption | omega | (unfold Fb; omega) | (refine za4.2 ⟨by assumption, ?_⟩; intro z hz; simp only [za2, zaI, or_false] at hz; rcases hz with rfl | rfl <;> (simp only [Bw, Cp, Ll, Fb]; decide)) | (rw [E9]; exact zaz (za9 (zaD (by decide : Fm As _ ≤ 4) _) _) (by omega))
 exact hk (⟨r3.fLast, (r3.fFl.set (0 : Int).toNat ({ y83 with fSt := z79 } : Ad)), r3.fQ⟩ : A7) r3x1 r3x2 iq80 hq80 _ lr3x1 lr3x2 e86 (s85.sel (.cons A1 (.cons Cq (.cons A1 V1))))
 refine Bt h58 (Ae sq9 A1 rfl (Bg (cs' := [si r3.fLast, r3x1, r3x2]) sq9 E2 (Ac (Aa rfl (Aa lr3x1 (Aa lr3x2 rfl)))) rfl (A9 rfl) rfl fun H s87 => Ae s87 (.here) rfl ?_))
 have e88 : OutB 400 (r3 : A7) := by
  apply C0 <;> first | assumption | omega | (unfold Fb; omega) | (refine za4.2 ⟨by assumption, ?_⟩; intro z hz; simp only [za2, zaI, or_false] at hz; rcases hz with rfl | rfl <;> (simp only [Bw, Cp, Ll, Fb]; decide)) | (rw [E9]; exact zaz (za9 (zaD (by decide : Fm As _ ≤ 4) _) _) (by omega))
 exact hk (r3 : A7) r3x1 r3x2 iq9 hq9 _ lr3x1 lr3x2 e88 (s87.sel (.cons Cq (.cons Cq (.cons A1 V1))))
 refine Bt h57 (Bp (Af ((decide (z8 = 4))) (fun h89 => ?_) fun h89 => ?_))
 refine Ci h89 (Am (o' := 1) rfl (A0 (c := r3x1) sq9 A1 rfl (Hv sq9 Bu (K9 (Af ((decide (0 < ((r3.fFl.length : Nat) : Int)))) (fun h90 => ?_) fun h90 => ?_)))))
 refine Ci h90 (Am (o' := 1) rfl (Gd.bothE ?_ ?_))
 refine A0 (c := r3x1) sq9 A1 rfl (Hh rfl rfl (Ow _ (by omega) code hcode c iq9 hq9   (sq9.pick (.here)) fun r91 r91x1 iq92 hq92 H lr91x1 hr91 sq92 => ?_))
 obtain ⟨or91, wr91⟩ := hr91
 have ur91 := or91
 have vr91 := wr91
 simp only [Cp, Bo, Ll, Fb, and_true, true_and] at ur91 vr91
 obtain ⟨y94, he93⟩ : ∃ y, (r3.fFl)[(0 : Int).toNat]? = some y := ⟨_, zam (by first | omega | (simp at *; omega))⟩
 refine Aeh (y := y94) (y' := ({ y94 with fM := r91 } : Ad)) (k := 1) (v := 4) (cty := F9) sq92 ⟨_, _, rfl, rfl, rfl, rfl⟩ rfl Cq (.sc (.own (.here) (.sc (.sc .nil)))) ⟨trivial, ⟨(Sy r91.fBody), (K4 trivial)⟩⟩ (by omega) he93 A5 (by omega) (Ac (Aa rfl (Aa lr91x1 rfl))) rfl rfl rfl fun H s95 => ?_
 have he93sy := Kv (p := Bw) obr3 he93
 have he93sw := Jn As (r3.fFl) (0 : Int).toNat y94 ({ y94 with fM := r91 } : Ad) he93
 have he93sv : As ({ y94 with fM := r91 } : Ad) = As y94 ∨ As ({ y94 with fM := r91 } : Ad) ≤ 102 := by first | exact .inl rfl | (right; show Bo _ + 0 ≤ 102; omega)
 have he93so : Bw ({ y94 with fM := r91 } : Ad) := ⟨by first | exact he93sy.1 | (simp only [Fb]; omega), by first | exact he93sy.2.1 | assumption, by first | exact he93sy.2.2 | (simp only [Fb]; omega)⟩
 have he93sa := Ki (p := Bw) (i := (0 : Int).toNat) obr3 he93so
 refine Ae s95 Bu rfl (Bg (cs' := [si r3.fLast, r3x1, r3x2]) s95 E2 (Ac (Aa rfl (Aa lr3x1 (Aa lr3x2 rfl)))) rfl (A9 rfl) rfl fun H s96 => Ae s96 (.here) rfl ?_)
 have e97 : OutB 400 (⟨r3.fLast, (r3.fFl.set (0 : Int).toNat ({ y94 with fM := r91 } : Ad)), r3.fQ⟩ : A7) := by
  apply C0 <;> first | assumption | omega | (unfold Fb; omega) | (refine za4.2 ⟨by assumption, ?_⟩; intro z hz; simp only [za2, zaI, or_false] at hz; rcases hz with rfl | rfl <;> (simp only [Bw, Cp, Ll, Fb]; decide)) | (rw [E9]; exact zaz (za9 (zaD (by decide : Fm As _ ≤ 4) _) _) (by omega))
 exact hk (⟨r3.fLast, (r3.fFl.set (0 : Int).toNat ({ y94 with fM := r91 } : Ad)), r3.fQ⟩ : A7) r3x1 r3x2 iq92 hq92 _ lr3x1 lr3x2 e97 (s96.sel (.cons A1 (.cons Cq (.cons A1 V1))))
 refine Hh rfl rfl (Ow _ (by omega) code hcode c iq9 hq9   (sq9.pick (.here)) fun r98 r98x1 iq99 hq99 H lr98x1 hr98 sq99 => ?_)
 obtain ⟨or98, wr98⟩ := hr98
 have ur98 := or98
 have vr98 := wr98
 simp only [Cp, Bo, Ll, Fb, and_true, true_and] at ur98 vr98
 refine A0 (c := r3x1) sq99 Bu rfl ?_
 obtain ⟨y101, he100⟩ : ∃ y, (r3.fFl)[(0 : Int).toNat]? = some y := ⟨_, zam (by first | omega | (simp at *; omega))⟩
 refine Aeh (y := y101) (y' := ({ y101 with fM := r98 } : Ad)) (k := 1) (v := 4) (cty := F9) sq99 ⟨_, _, rfl, rfl, rfl, rfl⟩ rfl Cq (.sc (.own (.here) (.sc (.sc .nil)))) ⟨trivial, ⟨(Sy r98.fBody), (K4 trivial)⟩⟩ (by omega) he100 A5 (by omega) (Ac (Aa rfl (Aa lr98x1 rfl))) rfl rfl rfl fun H s102 => ?_
 have he100sy := Kv (p := Bw) obr3 he100
 have he100sw := Jn As (r3.fFl) (0 : Int).toNat y101 ({ y101 with fM := r98 } : Ad) he100
 have he100sv : As ({ y101 with fM := r98 } : Ad) = As y101 ∨ As ({ y101 with fM := r98 } : Ad) ≤ 102 := by first | exact .inl rfl | (right; show Bo _ + 0 ≤ 102; omega)
 have he100so : Bw ({ y101 with fM := r98 } : Ad) := ⟨by first | exact he100sy.1 | (simp only [Fb]; omega), by first | exact he100sy.2.1 | assumption, by first | exact he100sy.2.2 | (simp only [Fb]; omega)⟩
 have he100sa := Ki (p := Bw) (i := (0 : Int).toNat) obr3 he100so
 refine Ae s102 Bu rfl (Bg (cs' := [si r3.fLast, r3x1, r3x2]) s102 E2 (Ac (Aa rfl (Aa lr3x1 (Aa lr3x2 rfl)))) rfl (A9 rfl) rfl fun H s103 => Ae s103 (.here) rfl ?_)
 have e104 : OutB 400 (⟨r3.fLast, (r3.fFl.set (0 : Int).toNat ({ y101 with fM := r98 } : Ad)), r3.fQ⟩ : A7) := by
  apply C0 <;> first | assumption | omega | (unfold Fb; omega) | (refine za4.2 ⟨by assumption, ?_⟩; intro z hz; simp only [za2, zaI, or_false] at hz; rcases hz with rfl | rfl <;> (simp only [Bw, Cp, Ll, Fb]; decide)) | (rw [E9]; exact zaz (za9 (zaD (by decide : Fm As _ ≤ 4) _) _) (by omega))
 exact hk (⟨r3.fLast, (r3.fFl.set (0 : Int).toNat ({ y101 with fM := r98 } : Ad)), r3.fQ⟩ : A7) r3x1 r3x2 iq99 hq99 _ lr3x1 lr3x2 e104 (s103.sel (.cons A1 (.cons Cq (.cons A1 V1))))
 refine Bt h90 (Ae sq9 A1 rfl (Bg (cs' := [si r3.fLast, r3x1, r3x2]) sq9 E2 (Ac (Aa rfl (Aa lr3x1 (Aa lr3x2 rfl)))) rfl (A9 rfl) rfl fun H s105 => Ae s105 (.here) rfl ?_))
 have e106 : OutB 400 (r3 : A7) := by
  apply C0 <;> first | assumption | omega | (unfold Fb; omega) | (refine za4.2 ⟨by assumption, ?_⟩; intro z hz; simp only [za2, zaI, or_false] at hz; rcases hz with rfl | rfl <;> (simp only [Bw, Cp, Ll, Fb]; decide)) | (rw [E9]; exact zaz (za9 (zaD (by decide : Fm As _ ≤ 4) _) _) (by omega))
 exact hk (r3 : A7) r3x1 r3x2 iq9 hq9 _ lr3x1 lr3x2 e106 (s105.sel (.cons Cq (.cons Cq (.cons A1 V1))))
 refine Bt h89 (Bp (Af ((decide (z8 = 5))) (fun h107 => ?_) fun h107 => ?_))
 refine Ci h107 (Am (o' := 1) rfl (A0 (c := r3x1) sq9 A1 rfl (Bk (cs := [.sc (.string (⟨#[97]⟩)), .nl, .sc (.int .i64 1), .sc (.bool false)]) rfl (Bk (cs := [.sc (.int .i64 9), .sc (.string (⟨#[97]⟩)), .nl, .sc (.int .i64 1), .sc (.bool false), .sc (.int .i64 1)]) rfl (Bk (cs := [.sc (.string (⟨#[97]⟩)), .nl, .sc (.int .i64 2), .sc (.bool false)]) rfl (Bk (cs := [.sc (.int .i64 10), .sc (.string (⟨#[97]⟩)), .nl, .sc (.int .i64 2), .sc (.bool false), .sc (.int .i64 3)]) rfl (Bk (cs := [.sc (.int .i64 9), .sc (.string (⟨#[97]⟩)), .nl, .sc (.int .i64 1), .sc (.bool false), .sc (.int .i64 1), .sc (.int .i64 10), .sc (.string (⟨#[97]⟩)), .nl, .sc (.int .i64 2), .sc (.bool false), .sc (.int .i64 3)]) rfl (Bz sq9 fun i108 H s109 => Aie (q := [(⟨9, ⟨⟨#[97]⟩, ⟨#[]⟩, 1, false⟩, 1⟩ : Ad), (⟨10, ⟨⟨#[97]⟩, ⟨#[]⟩, 2, false⟩, 3⟩ : Ad)]) (cty := [3, 9, 22, 3, 4, 3]) s109 ⟨_, _, rfl, rfl, rfl, rfl⟩ Cq (Rd (.here) rfl rfl (.sc (.sc (.nl (Mk (.nl (oS3 .nil)))))) (K4 ⟨Dp, (Mi ⟨Dp, (tK3 trivial)⟩)⟩)) (K4 ⟨Dp, (Mi ⟨Dp, (tK3 trivial)⟩)⟩) (by simp only [zav, zay]; omega) fun x110 H lx110 s111 => Am (o' := 1) rfl (B0 s111 Bu lx110 rfl fun H s112 => Ae s112 (.here) rfl (Bg (cs' := [.sc (.int .i64 r3.fLast), x110, r3x2]) s112 E2 (Ac (Aa rfl (Aa lx110 (Aa lr3x2 rfl)))) rfl (A9 rfl) rfl fun H s113 => Ae s113 (.here) rfl ?_))))))))))
 have e114 : OutB 400 (⟨r3.fLast, (r3.fFl ++ [(⟨9, ⟨⟨#[97]⟩, ⟨#[]⟩, 1, false⟩, 1⟩ : Ad), (⟨10, ⟨⟨#[97]⟩, ⟨#[]⟩, 2, false⟩, 3⟩ : Ad)]), r3.fQ⟩ : A7) := by
  apply C0 <;> first | assumption | omega | (unfold Fb; omega) | (refine za4.2 ⟨by assumption, ?_⟩; intro z hz; simp only [za2, zaI, or_false] at hz; rcases hz with rfl | rfl <;> (simp only [Bw, Cp, Ll, Fb]; decide)) | (rw [E9]; exact zaz (za9 (zaD (by decide : Fm As _ ≤ 4) _) _) (by omega))
 exact hk (⟨r3.fLast, (r3.fFl ++ [(⟨9, ⟨⟨#[97]⟩, ⟨#[]⟩, 1, false⟩, 1⟩ : Ad), (⟨10, ⟨⟨#[97]⟩, ⟨#[]⟩, 2, false⟩, 3⟩ : Ad)]), r3.fQ⟩ : A7) x110 r3x2 iq9 hq9 _ lx110 lr3x2 e114 (s113.sel (.cons Bu (.cons Cq (.cons Bu V1))))
 refine Bt h107 (Ae sq9 A1 rfl (Bg (cs' := [si r3.fLast, r3x1, r3x2]) sq9 E2 (Ac (Aa rfl (Aa lr3x1 (Aa lr3x2 rfl)))) rfl (A9 rfl) rfl fun H s115 => Ae s115 (.here) rfl ?_))
 have e116 : OutB 400 (r3 : A7) := by
  apply C0 <;> first | assumption | omega | (unfold Fb; omega) | (refine za4.2 ⟨by assumption, ?_⟩; intro z hz; simp only [za2, zaI, or_false] at hz; rcases hz with rfl | rfl <;> (simp only [Bw, Cp, Ll, Fb]; decide)) | (rw [E9]; exact zaz (za9 (zaD (by decide : Fm As _ ≤ 4) _) _) (by omega))
 exact hk (r3 : A7) r3x1 r3x2 iq9 hq9 _ lr3x1 lr3x2 e116 (s115.sel (.cons Cq (.cons Cq (.cons A1 V1))))
end
section
open Go
def U5 (f : Ad) : Az := if f.fSt = 3 then Al f.fId else Av f.fM f.fId true
def Nm (o : A7) (l : List Ad) : List Az := (l.filter fun _ => C9 o).map U5
def D8 (o : A7) : List Az := Nm o o.fFl
theorem X6 (o : A7) (l : List Ad) : (Nm o l).length ≤ l.length := by
 unfold Nm
 rw [zbC]
 exact List.length_filter_le _ _
theorem Rf (o : A7) (l : List Ad) (h : C9 o = false) : Nm o l = [] := by
 unfold Nm
 rw [List.filter_eq_nil_iff.2 (fun _ _ => by simp [h])]
 rfl
theorem Vj (o : A7) (b : Fj o ≤ 1048576) : o.fFl.length ≤ 1048576 := (R9 o b).1.1
theorem Il (n : Nat) (hn : 1048576 < n) (x0 : A7) (k0 : O0 x0) (b0 : Fj x0 ≤ 1048576) (h3 : (C9 x0) = true)  : ∀ (t pre : List Ad) (m : Nat) (i : Int) (i1 : Nat) (a0 : AV) (H : Ab), x0.fFl = pre ++ t → i = ((pre.length : Nat) : Int) → t.length < m → Ap a0 = true → Sep H [.own a0 29 (Ai Bd (Nm x0 pre)), .blk i1 (Bf x0) true] → Gd (· = some (Ai Bd (D8 x0))) (Qm (PR (n + 12) AV) (n + 12) (fun x H => Ba Ar E0.tp 29 H x) m (a0) (Ai Aq x0.fFl) (.sc (.int .i64 ((x0.fFl.length : Nat) : Int))) (.sc (.int .i64 i)) H)
 | [], pre, m + 1, i, i1, a0, H, he, hi, hm, la0, s0 => by
  obtain rfl : pre = x0.fFl := by simpa using he.symm
  have hfl := Vj x0 b0
  have hb : ∀ z ∈ x0.fFl, z.fM.fBody.size ≤ 1048576 := fun z hz => by have := (Qb x0 b0).1.2 z hz; exact this.1
  have hag := X6 x0 x0.fFl
  rw [Qm]
  try simp only [Qg, Qf]
  refine Mu (Bt (by simp [hi]) (Dn (AaO s0 (.here)) ?_))
  have e201 : D8 x0 = (Nm x0 x0.fFl) := by
   clear s0
   try simp only [bne_iff_ne, beq_iff_eq, beq_eq_false_iff_ne, F4] at h3
   first | assumption | (simp only [D8, Rf, h3, if_true, if_false, zal]; first | done | rfl)
  ·rw [e201]
   first | done | rfl
 | y :: t, pre, m + 1, i, i1, a0, H, he, hi, hm, la0, s0 => by
  have hlt : pre.length < x0.fFl.length := by rw [he]; simp
  have hfl := Vj x0 b0
  have hb : ∀ z ∈ x0.fFl, z.fM.fBody.size ≤ 1048576 := fun z hz => by have := (Qb x0 b0).1.2 z hz; exact this.1
  have hag := X6 x0 pre
  rw [Qm]
  try simp only [Qg, Qf]
  refine Mu (Ci (by simp [hi]; omega) (Sc hi A5 (by decide) he (AgM (A5 _) (Dc s0 fun i201 H s202 => Bg (cs' := Aq y) s202 (.here) (F8 (Du _)) rfl (A9 rfl) rfl fun H s203 => Am (o' := 5) rfl (A0 (c := .sc (.int .i64 y.fSt)) s203 (.here) rfl (Bp (Af ((decide (y.fSt = 3))) (fun h204 => ?_) fun h204 => ?_)))))))
  refine Ci h204 (Am (o' := 0) rfl (A0 (c := si y.fId) s203 (.here) rfl ?_))
  have c205 := Mx (n + 8) (by omega) y.fId
  refine Gl s203 rfl (Hz .nil) (c205) ⟨_, rfl, rfl⟩ (Eh _) ?_
  rintro _ _ H ⟨x206, x207, x208, x209, x210, x211, lx206, lx207, lx208, lx209, lx210, lx211, rfl, rfl⟩ s212
  simp only [zah, zar] at s212
  refine Bk (cs := [si ((Al y.fId).fType), .sc (.bool (Al y.fId).fDup), si ((Al y.fId).fQos), .sc (.bool (Al y.fId).fRetain), si ((Al y.fId).fId), ss ((Al y.fId).fTopic), x206, ss ((Al y.fId).fClient), si ((Al y.fId).fLevel), .sc (.bool (Al y.fId).fClean), si ((Al y.fId).fKeep), .sc (.bool (Al y.fId).fHasWill), ss ((Al y.fId).fWTopic), x207, si ((Al y.fId).fWQos), .sc (.bool (Al y.fId).fWRetain), .sc (.bool (Al y.fId).fHasUser), ss ((Al y.fId).fUser), .sc (.bool (Al y.fId).fHasPass), x208, si ((Al y.fId).fCode), .sc (.bool (Al y.fId).fPresent), x209, x210, x211]) (Eu (z' := [si ((Al y.fId).fType), .sc (.bool (Al y.fId).fDup), si ((Al y.fId).fQos), .sc (.bool (Al y.fId).fRetain), si ((Al y.fId).fId), ss ((Al y.fId).fTopic), x206, ss ((Al y.fId).fClient), si ((Al y.fId).fLevel), .sc (.bool (Al y.fId).fClean), si ((Al y.fId).fKeep), .sc (.bool (Al y.fId).fHasWill), ss ((Al y.fId).fWTopic), x207, si ((Al y.fId).fWQos), .sc (.bool (Al y.fId).fWRetain), .sc (.bool (Al y.fId).fHasUser), ss ((Al y.fId).fUser), .sc (.bool (Al y.fId).fHasPass), x208, si ((Al y.fId).fCode), .sc (.bool (Al y.fId).fPresent), x209, x210, x211]) (Ac (Aa rfl (Aa rfl (Aa rfl (Aa rfl (Aa rfl (Aa rfl (Aa lx206 (Aa rfl (Aa rfl (Aa rfl (Aa rfl (Aa rfl (Aa rfl (Aa lx207 (Aa rfl (Aa rfl (Aa rfl (Aa rfl (Aa rfl (Aa lx208 (Aa rfl (Aa rfl (Aa lx209 (Aa lx210 (Aa lx211 rfl)))))))))))))))))))))))))) rfl (A9 rfl) rfl (rfl)) (Bz s212 fun i213 H s214 => ?_)
  refine Sb (cty := [3, 4, 3, 4, 3, 9, 22, 9, 3, 4, 3, 4, 9, 22, 3, 4, 4, 9, 4, 22, 3, 4, 37, 38, 39]) (e := (⟨(Al y.fId).fType, (Al y.fId).fDup, (Al y.fId).fQos, (Al y.fId).fRetain, (Al y.fId).fId, (Al y.fId).fTopic, (Al y.fId).fBody, (Al y.fId).fClient, (Al y.fId).fLevel, (Al y.fId).fClean, (Al y.fId).fKeep, (Al y.fId).fHasWill, (Al y.fId).fWTopic, (Al y.fId).fWBody, (Al y.fId).fWQos, (Al y.fId).fWRetain, (Al y.fId).fHasUser, (Al y.fId).fUser, (Al y.fId).fHasPass, (Al y.fId).fPass, (Al y.fId).fCode, (Al y.fId).fPresent, ((Al y.fId).fWants), (Al y.fId).fNames, (Al y.fId).fCodes⟩ : Az)) s214 ⟨_, _, rfl, rfl, rfl, rfl⟩ Ya (.here) rfl (Aa rfl (Aa rfl (Aa rfl (Aa rfl (Aa rfl (Aa rfl (Aa lx206 (Aa rfl (Aa rfl (Aa rfl (Aa rfl (Aa rfl (Aa rfl (Aa lx207 (Aa rfl (Aa rfl (Aa rfl (Aa rfl (Aa rfl (Aa lx208 (Aa rfl (Aa rfl (Aa lx209 (Aa lx210 (Aa lx211 rfl))))))))))))))))))))))))) (G6 (.own Nk (G6 (.own E2 (Mk (.own Cq (.sc (.sc (.own Bu (.own A1 (.own (.here) .nil))))))))))) (G7 ⟨(Sy ((Al y.fId).fBody)), (G7 ⟨(Sy ((Al y.fId).fWBody)), (Mi ⟨(Sy ((Al y.fId).fPass)), (K4 ⟨(Xg ((Al y.fId).fWants)), ⟨(AjG ((Al y.fId).fNames)), ⟨(AjF ((Al y.fId).fCodes)), trivial⟩⟩⟩)⟩)⟩)⟩) rfl (by first | omega | (simp only [zag, zao]; omega)) fun x215 H lx215 s216 => Gx (by omega) (by omega) ?_
  have e217 : (Nm x0 (pre ++ [y])) = ((Nm x0 pre) ++ [⟨(Al y.fId).fType, (Al y.fId).fDup, (Al y.fId).fQos, (Al y.fId).fRetain, (Al y.fId).fId, (Al y.fId).fTopic, (Al y.fId).fBody, (Al y.fId).fClient, (Al y.fId).fLevel, (Al y.fId).fClean, (Al y.fId).fKeep, (Al y.fId).fHasWill, (Al y.fId).fWTopic, (Al y.fId).fWBody, (Al y.fId).fWQos, (Al y.fId).fWRetain, (Al y.fId).fHasUser, (Al y.fId).fUser, (Al y.fId).fHasPass, (Al y.fId).fPass, (Al y.fId).fCode, (Al y.fId).fPresent, ((Al y.fId).fWants), (Al y.fId).fNames, (Al y.fId).fCodes⟩]) := by
   try simp only [bne_iff_ne, beq_iff_eq, beq_eq_false_iff_ne, F4] at h3 h204
   simp only [Nm, U5, List.filter_append, List.filter_cons, List.filter_nil, za5, zau, zbs, h3, h204, if_true, if_false, zal]
   first | done | rfl
  exact Il n hn x0 k0 b0 h3  t (pre ++ [y]) m _ i1 x215 _ (by rw [he]; simp) (by rw [hi]; simp) (by simpa using hm) lx215 (by rw [e217]; exact (s216.sel (.cons (.here) (.cons A1 .nil))))
  refine Bt h204 (Am (o' := 1) rfl (AgL (ds := Aj y.fM) s203 (.here) (A9 rfl) rfl (Am (o' := 0) rfl (A0 (c := si y.fId) s203 (.here) rfl ?_))))
  have c218 := Aeq (n + 10) (by omega) y.fM y.fId true (by first | omega | exact hb _ (by simp [he]))
  refine Gl s203 rfl (.aggF (Ff _) (Hz .nil)) (c218) ⟨_, rfl, rfl⟩ (Eh _) ?_
  rintro _ _ H ⟨x219, x220, x221, x222, x223, x224, lx219, lx220, lx221, lx222, lx223, lx224, rfl, rfl⟩ s225
  simp only [zah, zar] at s225
  refine Bk (cs := [si ((Av y.fM y.fId true).fType), .sc (.bool (Av y.fM y.fId true).fDup), si ((Av y.fM y.fId true).fQos), .sc (.bool (Av y.fM y.fId true).fRetain), si ((Av y.fM y.fId true).fId), ss ((Av y.fM y.fId true).fTopic), x219, ss ((Av y.fM y.fId true).fClient), si ((Av y.fM y.fId true).fLevel), .sc (.bool (Av y.fM y.fId true).fClean), si ((Av y.fM y.fId true).fKeep), .sc (.bool (Av y.fM y.fId true).fHasWill), ss ((Av y.fM y.fId true).fWTopic), x220, si ((Av y.fM y.fId true).fWQos), .sc (.bool (Av y.fM y.fId true).fWRetain), .sc (.bool (Av y.fM y.fId true).fHasUser), ss ((Av y.fM y.fId true).fUser), .sc (.bool (Av y.fM y.fId true).fHasPass), x221, si ((Av y.fM y.fId true).fCode), .sc (.bool (Av y.fM y.fId true).fPresent), x222, x223, x224]) (Eu (z' := [si ((Av y.fM y.fId true).fType), .sc (.bool (Av y.fM y.fId true).fDup), si ((Av y.fM y.fId true).fQos), .sc (.bool (Av y.fM y.fId true).fRetain), si ((Av y.fM y.fId true).fId), ss ((Av y.fM y.fId true).fTopic), x219, ss ((Av y.fM y.fId true).fClient), si ((Av y.fM y.fId true).fLevel), .sc (.bool (Av y.fM y.fId true).fClean), si ((Av y.fM y.fId true).fKeep), .sc (.bool (Av y.fM y.fId true).fHasWill), ss ((Av y.fM y.fId true).fWTopic), x220, si ((Av y.fM y.fId true).fWQos), .sc (.bool (Av y.fM y.fId true).fWRetain), .sc (.bool (Av y.fM y.fId true).fHasUser), ss ((Av y.fM y.fId true).fUser), .sc (.bool (Av y.fM y.fId true).fHasPass), x221, si ((Av y.fM y.fId true).fCode), .sc (.bool (Av y.fM y.fId true).fPresent), x222, x223, x224]) (Ac (Aa rfl (Aa rfl (Aa rfl (Aa rfl (Aa rfl (Aa rfl (Aa lx219 (Aa rfl (Aa rfl (Aa rfl (Aa rfl (Aa rfl (Aa rfl (Aa lx220 (Aa rfl (Aa rfl (Aa rfl (Aa rfl (Aa rfl (Aa lx221 (Aa rfl (Aa rfl (Aa lx222 (Aa lx223 (Aa lx224 rfl)))))))))))))))))))))))))) rfl (A9 rfl) rfl (rfl)) (Bz s225 fun i226 H s227 => ?_)
  refine Sb (cty := [3, 4, 3, 4, 3, 9, 22, 9, 3, 4, 3, 4, 9, 22, 3, 4, 4, 9, 4, 22, 3, 4, 37, 38, 39]) (e := (⟨(Av y.fM y.fId true).fType, (Av y.fM y.fId true).fDup, (Av y.fM y.fId true).fQos, (Av y.fM y.fId true).fRetain, (Av y.fM y.fId true).fId, (Av y.fM y.fId true).fTopic, (Av y.fM y.fId true).fBody, (Av y.fM y.fId true).fClient, (Av y.fM y.fId true).fLevel, (Av y.fM y.fId true).fClean, (Av y.fM y.fId true).fKeep, (Av y.fM y.fId true).fHasWill, (Av y.fM y.fId true).fWTopic, (Av y.fM y.fId true).fWBody, (Av y.fM y.fId true).fWQos, (Av y.fM y.fId true).fWRetain, (Av y.fM y.fId true).fHasUser, (Av y.fM y.fId true).fUser, (Av y.fM y.fId true).fHasPass, (Av y.fM y.fId true).fPass, (Av y.fM y.fId true).fCode, (Av y.fM y.fId true).fPresent, ((Av y.fM y.fId true).fWants), (Av y.fM y.fId true).fNames, (Av y.fM y.fId true).fCodes⟩ : Az)) s227 ⟨_, _, rfl, rfl, rfl, rfl⟩ Ya (.here) rfl (Aa rfl (Aa rfl (Aa rfl (Aa rfl (Aa rfl (Aa rfl (Aa lx219 (Aa rfl (Aa rfl (Aa rfl (Aa rfl (Aa rfl (Aa rfl (Aa lx220 (Aa rfl (Aa rfl (Aa rfl (Aa rfl (Aa rfl (Aa lx221 (Aa rfl (Aa rfl (Aa lx222 (Aa lx223 (Aa lx224 rfl))))))))))))))))))))))))) (G6 (.own Nk (G6 (.own E2 (Mk (.own Cq (.sc (.sc (.own Bu (.own A1 (.own (.here) .nil))))))))))) (G7 ⟨(Sy ((Av y.fM y.fId true).fBody)), (G7 ⟨(Sy ((Av y.fM y.fId true).fWBody)), (Mi ⟨(Sy ((Av y.fM y.fId true).fPass)), (K4 ⟨(Xg ((Av y.fM y.fId true).fWants)), ⟨(AjG ((Av y.fM y.fId true).fNames)), ⟨(AjF ((Av y.fM y.fId true).fCodes)), trivial⟩⟩⟩)⟩)⟩)⟩) rfl (by first | omega | (simp only [zag, zao]; omega)) fun x228 H lx228 s229 => Gx (by omega) (by omega) ?_
  have e230 : (Nm x0 (pre ++ [y])) = ((Nm x0 pre) ++ [⟨(Av y.fM y.fId true).fType, (Av y.fM y.fId true).fDup, (Av y.fM y.fId true).fQos, (Av y.fM y.fId true).fRetain, (Av y.fM y.fId true).fId, (Av y.fM y.fId true).fTopic, (Av y.fM y.fId true).fBody, (Av y.fM y.fId true).fClient, (Av y.fM y.fId true).fLevel, (Av y.fM y.fId true).fClean, (Av y.fM y.fId true).fKeep, (Av y.fM y.fId true).fHasWill, (Av y.fM y.fId true).fWTopic, (Av y.fM y.fId true).fWBody, (Av y.fM y.fId true).fWQos, (Av y.fM y.fId true).fWRetain, (Av y.fM y.fId true).fHasUser, (Av y.fM y.fId true).fUser, (Av y.fM y.fId true).fHasPass, (Av y.fM y.fId true).fPass, (Av y.fM y.fId true).fCode, (Av y.fM y.fId true).fPresent, ((Av y.fM y.fId true).fWants), (Av y.fM y.fId true).fNames, (Av y.fM y.fId true).fCodes⟩]) := by
   try simp only [bne_iff_ne, beq_iff_eq, beq_eq_false_iff_ne, F4] at h3 h204
   simp only [Nm, U5, List.filter_append, List.filter_cons, List.filter_nil, za5, zau, zbs, h3, h204, if_true, if_false, zal]
   first | done | rfl
  exact Il n hn x0 k0 b0 h3  t (pre ++ [y]) m _ i1 x228 _ (by rw [he]; simp) (by rw [hi]; simp) (by simpa using hm) lx228 (by rw [e230]; exact (s229.sel (.cons (.here) (.cons A1 .nil))))
theorem Se (n : Nat) (hn : 1048576 < n) (x0 : A7) (k0 : O0 x0) (b0 : Fj x0 ≤ 1048576) : Cs E0 (n + 13) 29 9 [.agg (Bf x0)] = some (Ai Bd (D8 x0)) := by
 rw [Bb, AiJ, f9]
 refine G0 (G := (· = some (Ai Bd (D8 x0)))) ?_
 have hfl := Vj x0 b0
 have hb : ∀ z ∈ x0.fFl, z.fM.fBody.size ≤ 1048576 := fun z hz => by have := (Qb x0 b0).1.2 z hz; exact this.1
 try simp only [Qg, Qf]
 have s0 : Sep [] [] := Gz
 refine Ms s0 (F8 (H4 _)) fun i1 H s2 => Ae s2 (.here) rfl (Co (v := (.bool (C9 x0))) s2 rfl (.aggF (H4 _) .nil) (Lb (n + 2) (by omega) _ x0 b0) (He (Af ((C9 x0)) (fun h3 => ?_) fun h3 => ?_)))
 refine Bt (nF h3) (Am (o' := 1) rfl (A0 (c := Ai Aq x0.fFl) s2 (.here) rfl (Sd ?_)))
 have s4 := s2.nl (ty := 29) ⟨_, _, rfl, rfl⟩
 exact Il n hn x0 k0 b0 h3  x0.fFl [] _ 0 i1 .nl _ rfl rfl (by omega) rfl s4
 refine Ci (nT h3) ?_
 have s5 := s2.nl (ty := 29) ⟨_, _, rfl, rfl⟩
 refine Dn (AaO s5 .here) ?_
 have e6 : D8 x0 = [] := by
  clear s0 s2 s5
  try simp only [bne_iff_ne, beq_iff_eq, beq_eq_false_iff_ne, F4] at h3
  first | assumption | (simp only [D8, Rf, h3, if_true, if_false, zal]; first | done | rfl)
 ·rw [e6]
  first | done | rfl
theorem Aiw (i : Int) : Fw (Al i) = 0 := AeR 6 i
theorem AiA (f : Ad) : Fw (U5 f) ≤ As f := by
 unfold U5
 have e : As f = Bo f.fM + 0 := rfl
 split
 rw [Aiw]
 exact zaN _
 rw [Aiv, e]
 exact zak _
theorem Acv : ∀ (l : List Ad), Fm Fw (l.map U5) ≤ Fm As l
 | [] => zak _
 | f :: l => by
  have h1 := AiA f
  have h2 := Acv l
  show 1 + Fw (U5 f) + Fm Fw (l.map U5) ≤ 1 + As f + Fm As l
  omega
end
section
open Go
theorem AjS (n ty : Nat) (s : ByteArray) : Cs E0 (n + 1) ty 7 [A3 s] = some (.sc (.bool (decide ((1048576 : Int) < (s.size : Nat))))) := by
 rw [Bb, AiH, f7]
 simp only [Qg, Qf]
 refine Dq ?_
 rfl
theorem Aiy (n ty : Nat) (s t : ByteArray) : Cs E0 (n + 1) ty 13 [A3 s, A3 t] = some (.sc (.bool (s.toList == t.toList))) := by
 rw [Bb, Ahq, f13]
 have e : ∀ u : ByteArray, Cj [] 1 (.ro u.size (Be u)) = some (Be u) := by
  intro u
  simp [Cj, Ei]
 have eb : ∀ u : ByteArray, (Be u).mapM Lp = some u.data.toList := fun u => Jh _
 simp only [Qg, Qf, Qs, e, eb, zab, Ey, Yn]
 simp
theorem Aiz (n ty : Nat) (s t : ByteArray) (h : s = t) : Cs E0 (n + 1) ty 13 [A3 s, A3 t] = some (.sc (.bool true)) := by
 rw [Aiy, h]
 simp
theorem AgR (pc : Bool) (m : Cd) (i : Int) (d : Bool) (hq : 0 < m.fQos) : C1 (Av m i d) (Bc pc (Av m i d)) = true := by
 have h1 : ¬ m.fQos = 0 := by omega
 simp [C1, Ke, Fv, Bc, Fd, Av, Fs, Ia, hq, h1]
structure FlG (f : Ad) : Prop where
 id : Ge f.fId 1 65535 = true
 m : C3 f.fM = true
 q : 0 < f.fM.fQos ∧ f.fM.fQos ≤ 2
theorem Wr : ∀ (r P : List Ad), Pw P r = true → ∀ f ∈ r, FlG f
 | [], _, _, f, hf => by cases hf
 | x :: r, P, h, f, hf => by
  rw [Pw, zai] at h
  rcases za2.1 hf with rfl | hf
  have h1 := h.1
  simp only [zai] at h1
  refine ⟨h1.1.1.1, h1.1.1.2, ?_⟩
  have h2 := h1.1.2
  unfold X7 at h2
  split at h2
  rename_i h3
  rw [beq_iff_eq] at h3
  omega
  simp only [zai, beq_iff_eq] at h2
  omega
  exact Wr r _ h.2 f hf
theorem P4 {o : A7} (h : C9 o = true) : (∀ f ∈ o.fFl, FlG f) ∧ o.fFl.length ≤ 3 := by
 unfold C9 at h
 simp only [zai, decide_eq_true_eq] at h
 exact ⟨Wr _ _ h.1, by omega⟩
theorem Aa7 (n : Nat) (hn : 1048576 < n) (i : Int) : Cs E0 (n + 2) 4 56 [.sc (.int .i64 i)] = some (.sc (.bool (Ge i 0 2))) := by
 rw [Bb, Adx, f56]
 refine G0 (G := (· = some (sb (Ge i 0 2)))) ?_
 try simp only [Qg, Qf]
 have s0 : Sep [] [] := Gz
 refine Co (v := (.bool (Ge i 0 2))) s0 rfl (vS3 .nil) (Jl n _ i 0 2) (Dn rfl ?_)
 first | rfl | (simp_all; done)
theorem Zk (n : Nat) (hn : 1048576 < n) (m : Cd) (i : Int) (hs : m.fTopic.size ≤ 1048576) (hq : 0 < m.fQos ∧ m.fQos ≤ 2) (hqi : Ge m.fQos 0 2 = true) (hto : En m.fTopic = true) (hbo : m.fBody.size ≤ 40) (hid : Ge i 1 65535 = true) : Cs E0 (n + 8) 4 12 [.agg (Bd (Av m i true))] = some (.sc (.bool true)) := by
 rw [Bb, AcQ, f12]
 refine G0 (G := (· = some bT)) ?_
 try simp only [Qg, Qf]
 have s0 : Sep [] [] := Gz
 refine Ms s0 (F8 (Dv _)) fun i1 H s2 => Am (o' := 0) rfl (A0 (c := si ((Av m i true).fType)) s2 (.here) rfl (Co (v := (.bool (Ge ((Av m i true).fType) 1 14))) s2 rfl (vS3 .nil) (Jl (n + 6) _ ((Av m i true).fType) 1 14) (He (A6 (nF rfl) (Ae s2 (.here) rfl (Gd.bothE ?_ ?_))))))
 ·refine A6 (nF rfl) (Ae s2 (.here) rfl (A6 (nF rfl) (Hh rfl rfl (L4 (n + 6) (by omega) (Av m i true) s2 fun Rs3 H hRs3 s3 => A6 (nF rfl) (Co (v := (.bool (C1 (Av m i true) (Bc false (Av m i true))))) s3 rfl (.aggF (Dv _) (.agg (hRs3 _) .nil)) (Gp (n + 5) (by omega) _ (Av m i true) (Bc false (Av m i true)) (zaN _) (zaN _) (zaN _)) (A6 (nF rfl) (He (F3 (nF rfl) (Bt (nF (AgR false m i true hq.1)) (Am (o' := 0) rfl (A0 (c := .sc (.int .i64 ((Av m i true).fType))) s3 (.here) rfl (Bp (Bt rfl (Bp (Bt rfl (Bp (Ci rfl (Am (o' := 2) rfl (A0 (c := .sc (.int .i64 ((Av m i true).fQos))) s3 (.here) rfl (Co (v := (.bool (Ge ((Av m i true).fQos) 0 2))) s3 rfl (.cons .sc .nil) (Aa7 (n + 5) (by omega) ((Av m i true).fQos)) (A6 hqi (Am (o' := 5) rfl (A6 hqi (A0 (c := .sc (.string ((Av m i true).fTopic))) s3 (.here) rfl (A6 hqi (Co (v := (.bool (En m.fTopic))) s3 rfl (.cons .sc .nil) (N8 (n + 2) (by omega) _ m.fTopic hs) (G8 hqi (A6 hto (Am (o' := 6) rfl (A6 hto (A0 (c := A3 ((Av m i true).fBody)) s3 (.here) rfl (A6 hto (Sd (A6 hto (Ud (G8 hto (A6 (decide_eq_true (by show ((m.fBody.size : Nat) : Int) ≤ 40; omega)) (Am (o' := 2) rfl (A6 (decide_eq_true (by show ((m.fBody.size : Nat) : Int) ≤ 40; omega)) (A0 (c := .sc (.int .i64 ((Av m i true).fQos))) s3 (.here) rfl (A6 (decide_eq_true (by show ((m.fBody.size : Nat) : Int) ≤ 40; omega)) (Bp (A6 (decide_eq_true (by show ((m.fBody.size : Nat) : Int) ≤ 40; omega)) (A6 (decide_eq_false (by show ¬ m.fQos = 0; omega)) (Am (o' := 4) rfl (A6 (decide_eq_false (by show ¬ m.fQos = 0; omega)) (A0 (c := .sc (.int .i64 ((Av m i true).fId))) s3 (.here) rfl (A6 (decide_eq_false (by show ¬ m.fQos = 0; omega)) (Co (v := (.bool (Ge ((Av m i true).fId) 1 65535))) s3 rfl (.cons .sc .nil) (Vp (n + 5) (by omega) ((Av m i true).fId)) (A6 (decide_eq_true (by show ((m.fBody.size : Nat) : Int) ≤ 40; omega)) (F3 (decide_eq_false (by show ¬ m.fQos = 0; omega)) (G8 (decide_eq_true (by show ((m.fBody.size : Nat) : Int) ≤ 40; omega)) (Dn rfl ?_)))))))))))))))))))))))))))))))))))))))))))))))))))))
  first | rfl | exact congrArg (fun b => some (AV.sc (.bool b))) hid | (simp_all; done)
 ·refine A6 (nF rfl) (Hh rfl rfl (L4 (n + 6) (by omega) (Av m i true) s2 fun Rs4 H hRs4 s4 => A6 (nF rfl) (Ae s4 (.here) rfl (A6 (nF rfl) (Co (v := (.bool (C1 (Av m i true) (Bc false (Av m i true))))) s4 rfl (.aggF (Dv _) (.agg (hRs4 _) .nil)) (Gp (n + 5) (by omega) _ (Av m i true) (Bc false (Av m i true)) (zaN _) (zaN _) (zaN _)) (A6 (nF rfl) (He (F3 (nF rfl) (Bt (nF (AgR false m i true hq.1)) (Am (o' := 0) rfl (A0 (c := .sc (.int .i64 ((Av m i true).fType))) s4 (.here) rfl (Bp (Bt rfl (Bp (Bt rfl (Bp (Ci rfl (Am (o' := 2) rfl (A0 (c := .sc (.int .i64 ((Av m i true).fQos))) s4 (.here) rfl (Co (v := (.bool (Ge ((Av m i true).fQos) 0 2))) s4 rfl (.cons .sc .nil) (Aa7 (n + 5) (by omega) ((Av m i true).fQos)) (A6 hqi (Am (o' := 5) rfl (A6 hqi (A0 (c := .sc (.string ((Av m i true).fTopic))) s4 (.here) rfl (A6 hqi (Co (v := (.bool (En m.fTopic))) s4 rfl (.cons .sc .nil) (N8 (n + 2) (by omega) _ m.fTopic hs) (G8 hqi (A6 hto (Am (o' := 6) rfl (A6 hto (A0 (c := A3 ((Av m i true).fBody)) s4 (.here) rfl (A6 hto (Sd (A6 hto (Ud (G8 hto (A6 (decide_eq_true (by show ((m.fBody.size : Nat) : Int) ≤ 40; omega)) (Am (o' := 2) rfl (A6 (decide_eq_true (by show ((m.fBody.size : Nat) : Int) ≤ 40; omega)) (A0 (c := .sc (.int .i64 ((Av m i true).fQos))) s4 (.here) rfl (A6 (decide_eq_true (by show ((m.fBody.size : Nat) : Int) ≤ 40; omega)) (Bp (A6 (decide_eq_true (by show ((m.fBody.size : Nat) : Int) ≤ 40; omega)) (A6 (decide_eq_false (by show ¬ m.fQos = 0; omega)) (Am (o' := 4) rfl (A6 (decide_eq_false (by show ¬ m.fQos = 0; omega)) (A0 (c := .sc (.int .i64 ((Av m i true).fId))) s4 (.here) rfl (A6 (decide_eq_false (by show ¬ m.fQos = 0; omega)) (Co (v := (.bool (Ge ((Av m i true).fId) 1 65535))) s4 rfl (.cons .sc .nil) (Vp (n + 5) (by omega) ((Av m i true).fId)) (A6 (decide_eq_true (by show ((m.fBody.size : Nat) : Int) ≤ 40; omega)) (F3 (decide_eq_false (by show ¬ m.fQos = 0; omega)) (G8 (decide_eq_true (by show ((m.fBody.size : Nat) : Int) ≤ 40; omega)) (Dn rfl ?_)))))))))))))))))))))))))))))))))))))))))))))))))))))
  first | rfl | exact congrArg (fun b => some (AV.sc (.bool b))) hid | (simp_all; done)
theorem AbP (n : Nat) (hn : 1048576 < n) (y : Az) (f : Ad) (e : y = U5 f) (h : FlG f) (hs : f.fM.fTopic.size ≤ 1048576) : Cs E0 (n + 8) 4 12 [.agg (Bd y)] = some (.sc (.bool true)) := by
 subst e
 unfold U5
 split
 have h2 : Al f.fId = El 6 f.fId := if_pos h.id
 rw [h2, show n + 8 = n + 5 + 3 by omega, Wy (n + 5) (by omega) f.fId, h.id]
 have h2 := h.m
 unfold C3 at h2
 simp only [zai, decide_eq_true_eq] at h2
 exact Zk n hn f.fM f.fId hs h.q (by have := h.q; simp only [Ge, zai, decide_eq_true_eq]; omega) (by first | exact h2.1 | exact h2.1.1 | exact h2.1.1.1) (by omega) h.id
theorem AgZ (n : Nat) (hn : 1048576 < n) (x : A7) (h : OutB 400 x) : ∃ l, l = D8 x ∧ (Fm Fw l ≤ 400 ∧ l.length ≤ 400) ∧ Cs E0 (n + 13) 29 9 [.agg (Bf x)] = some (Ai Bd l) := by
 refine ⟨_, rfl, ?_, Se n hn x (h.ok (by decide)) (zaz h.wt (by decide))⟩
 have h1 : Fm Fw (D8 x) ≤ 400 := by
  unfold D8
  cases hk : C9 x with
  | false =>
   rw [Rf _ _ hk]
   exact zaN _
  | true =>
   have e : Nm x x.fFl = x.fFl.map U5 := by
    unfold Nm
    rw [List.filter_eq_self.2 (fun _ _ => hk)]
   rw [e]
   have := Acv x.fFl
   have := h.2
   omega
 have h2 := Iy Fw (D8 x)
 exact ⟨h1, by omega⟩
theorem AjR (n : Nat) (hn : 1048576 < n) (x : A7) (kd id : Int) (h : OutB 400 x) : ∃ y p b, OutB 400 y ∧ (p.fWants.length ≤ 0 ∧ p.fNames.length ≤ 0 ∧ p.fCodes.length ≤ 0) ∧ Cs E0 (n + 13) 45 15 [.agg (Bf x), .sc (.int .i64 kd), .sc (.int .i64 id)] = some (.tup [.agg (Bf y), .agg (Bd p), .sc (.bool b)]) ∧ Cs E0 (n + 13) 45 16 [.agg (Bf x), .sc (.int .i64 kd), .sc (.int .i64 id)] = some (.tup [.agg (Bf y), .agg (Bd p), .sc (.bool b)]) := by
 refine ⟨_, _, _, V9 h, ?_, Aep n hn x kd id (zaz h.wt (by decide)), Xv n hn x kd id (zaz h.wt (by decide))⟩
 show (Kd x kd id).fWants.length ≤ 0 ∧ _
 have h2 := AeY x kd id
 unfold Fw at h2
 have e1 := Iy AeS (Kd x kd id).fWants
 have e2 := Iy ByteArray.size (Kd x kd id).fNames
 refine ⟨by omega, ?_, ?_⟩
 show (Kd x kd id).fNames.length ≤ 0
 omega
 show (Kd x kd id).fCodes.length ≤ 0
 omega
theorem Ais (n : Nat) (hn : 1048576 < n) (x : A7) (m : Cd) (h : OutB 400 x) (hm : Cp m) (hw : Bo m ≤ 102) : ∃ y co, y = Do x m ∧ co = Iv x m ∧ OutB 503 y ∧ Cs E0 (n + 11) 49 18 [.agg (Bf x), .agg (Aj m)] = some (.tup [.agg (Bf y), .sc (.int .i64 co)]) ∧ Cs E0 (n + 11) 49 19 [.agg (Bf x), .agg (Aj m)] = some (.tup [.agg (Bf y), .sc (.int .i64 co)]) :=
 ⟨_, _, rfl, rfl, (Vv h hm).mono (by omega), Ty n hn x m (h.ok (by decide)) hm (zaz h.wt (by decide)) (by omega), K1 n hn x m (h.ok (by decide)) hm (zaz h.wt (by decide)) (by omega)⟩
theorem Ru {α : Type} (f : α → α → Bool) (hf : ∀ x, f x x = true) : ∀ l : List α, Fs f l l = true := by
 intro l
 unfold Fs
 have h : ∀ l : List α, Ia f l l = true := by
  intro l
  induction l with
  | nil => rfl
  | cons x l ih => simp [Ia, hf, ih]
 simp [h]
theorem Rc (p : Az) : C1 p p = true := by
 have h1 : Fs Ig p.fWants p.fWants = true := Ru _ (fun x => by simp [Ig, Ji, Nl, Vc]) _
 have h2 : Fs Nl p.fNames p.fNames = true := Ru _ (fun x => by simp [Nl]) _
 have h3 : Fs Vc p.fCodes p.fCodes = true := Ru _ (fun x => by simp [Vc]) _
 unfold C1 Ke Fv
 rw [h1, h2, h3]
 simp
section
variable {x y c : A7} {l : List Az} {p : Az} {f : Ad} {m : Cd} {co z : Int}
theorem Xy {α : Type} {l : List α} {z : Int} (h0 : 0 ≤ z) (h1 : z < ((l.length : Nat) : Int)) : ∃ p y q, l = p ++ y :: q ∧ z = ((p.length : Nat) : Int) := by
 have h2 : z.toNat < l.length := by omega
 refine ⟨l.take z.toNat, l[z.toNat], l.drop (z.toNat + 1), ?_, ?_⟩
 rw [List.getElem_cons_drop, zaL]
 rw [za6]
 omega
theorem Acu (e : l = D8 x) (h : C9 x = true) : l = x.fFl.map U5 := by
 subst e
 unfold D8 Nm
 rw [List.filter_eq_self.2 (fun _ _ => h)]
theorem Pm (e : l = D8 x) (h : C9 x = true) : l.length = x.fFl.length := by rw [Acu e h, zbC]
theorem AgY (e : l = D8 x) (h : C9 x = false) : ((l.length : Nat) : Int) = 0 := by
 subst e
 unfold D8
 rw [Rf _ _ h]
 rfl
theorem Ai8 (e : l = D8 x) (h : C9 x = true) (hp : l[z.toNat]? = some p) (hf : x.fFl[z.toNat]? = some f) : p = U5 f := by
 rw [Acu e h, zaZ, hf] at hp
 have : U5 f = p := by simpa using hp
 exact this.symm
theorem Ai9 (h : C9 x = true) (hf : x.fFl[z.toNat]? = some f) : FlG f := (P4 h).1 f (zbF hf)
theorem Mm (e : p = U5 f) (g : FlG f) : p.fId = f.fId := by
 subst e
 unfold U5
 split
 rw [show Al f.fId = El 6 f.fId from if_pos g.id]
 rfl
 rfl
theorem Ju (e : p = U5 f) (g : FlG f) : (decide (p.fType = 6) == decide (f.fSt = 3)) = true := by
 subst e
 unfold U5
 split
 rename_i h
 rw [show Al f.fId = El 6 f.fId from if_pos g.id, h]
 rfl
 rename_i h
 rw [decide_eq_false h]
 rfl
theorem Fp (e : p = U5 f) (g : FlG f) (ht : decide (p.fType = 3) = true) : p.fDup = true ∧ p.fTopic = f.fM.fTopic ∧ p.fBody = f.fM.fBody := by
 subst e
 unfold U5 at ht ⊢
 split
 rename_i h
 rw [if_pos h, show Al f.fId = El 6 f.fId from if_pos g.id] at ht
 cases ht
 exact ⟨rfl, rfl, rfl⟩
theorem Kw (e : c = Do x m) (ec : co = Iv x m) (h : decide (co = 0) = true) : C9 c = true ∧ ((c.fQ.length : Nat) : Int) = ((x.fQ.length : Nat) : Int) + 1 := by
 have h := of_decide_eq_true h
 subst e
 unfold Iv at ec
 unfold Do
 split at ec
 rename_i ho
 rw [if_pos ho]
 have h3 : E1 x.fQ m = 0 := by omega
 have key : G1 x.fQ m = x.fQ ++ [m] ∧ D9 (x.fQ ++ [m]) = true := by
  unfold G1
  unfold E1 at h3
  split at h3
  rename_i hc
  split at h3
  rename_i hl
  refine ⟨if_pos ⟨hc, hl⟩, ?_⟩
  simp only [D9, zai, za3, decide_eq_true_eq] at hc ⊢
  refine ⟨fun y hy => ?_, by simp; omega⟩
  rcases zaJ.1 hy with hy | hy
  exact hc.1.1 y hy
  rw [zb6.1 hy]
  exact hc.2
  split at h3 <;> omega
  omega
 constructor
 unfold C9 at ho ⊢
 simp only [zai] at ho ⊢
 refine ⟨ho.1, ⟨⟨ho.2.1.1, ho.2.1.2⟩, ?_⟩⟩
 show D9 (G1 x.fQ m) = true
 rw [key.1]
 exact key.2
 show (((G1 x.fQ m).length : Nat) : Int) = _
 rw [key.1, zag]
 rfl
 omega
end
theorem Tw (n : Nat) (hn : 1048576 < n) (code : ByteArray) (hcode : code.size ≤ 1048576)   {β : Type} {r : Option β} {KH : KO β} {H : Ab} {L : List Ck} (s0 : Sep H (L)) (hk : ∀ (r0 : A7) (r0x1 : AV) (r0x2 : AV) (H' : Ab), (Ap r0x1 = true) → (Ap r0x2 = true) → (OutB 400 r0) → Sep H' (.own r0x1 24 (Ai Aq r0.fFl) :: .own r0x2 25 (Ai Aj r0.fQ) :: L) → Gd (· = r) (KH (.agg [.sc (.int .i64 r0.fLast), r0x1, r0x2]) H')) : Gd (· = r) (Di E0 (n + 20) β 8 [A3 code] H fun x H => KH x H) := by
 rw [AiI, f8]
 try simp only [Qg, Qf]
 refine Dc s0 fun i1 H s2 => Ain hcode (by omega) s2 fun c3 hq4 H sq4 => Hh rfl rfl (Vq _ (by omega) code hcode c3 0 hq4   (sq4.pick (.here)) fun r5 r5x1 r5x2 iq6 hq6 H lr5x1 lr5x2 hr5 sq6 => ?_)
 have kr5 := hr5
 obtain ⟨⟨oar5, obr5, ocr5⟩, wr5⟩ := kr5
 have gr5 := Hn hr5
 refine Bg (cs' := [si r5.fLast, r5x1, r5x2]) sq6 Cq (Ac (Aa rfl (Aa lr5x1 (Aa lr5x2 rfl)))) rfl (A9 rfl) rfl fun H s7 => Ae s7 (.here) rfl ?_
 have e8 : OutB 400 (r5 : A7) := by
  first | assumption | exact hinv | (apply C0 <;> first | assumption | omega | (unfold Fb; omega) | (intro z hz; cases hz; done))
 exact hk (r5 : A7) r5x1 r5x2 _ lr5x1 lr5x2 e8 (s7.sel (.cons A1 (.cons A1 V1)))
theorem Wm (n : Nat) (hn : 1048576 < n) (code : ByteArray) (hcode : code.size ≤ 1048576)   {β : Type} {r : Option β} {KH : KO β} {H : Ab} {L : List Ck} (s0 : Sep H (L)) (hk : ∀ (r0 : A7) (r0x1 : AV) (r0x2 : AV) (r1 : Int) (r2 : Int) (H' : Ab), (Ap r0x1 = true) → (Ap r0x2 = true) → (OutB 400 r0) → (0 ≤ r1 ∧ r1 ≤ 7) → (-9223372036854775808 ≤ r2 ∧ r2 ≤ 9223372036854775807) → Sep H' (.own r0x1 24 (Ai Aq r0.fFl) :: .own r0x2 25 (Ai Aj r0.fQ) :: L) → Gd (· = r) (KH (.tup [.agg [.sc (.int .i64 r0.fLast), r0x1, r0x2], .sc (.int .i64 r1), .sc (.int .i64 r2)]) H')) : Gd (· = r) (Di E0 (n + 20) β 14 [A3 code] H fun x H => KH x H) := by
 rw [Ahr, f14]
 try simp only [Qg, Qf]
 refine Dc s0 fun i1 H s2 => Ain hcode (by omega) s2 fun c3 hq4 H sq4 => Hh rfl rfl (Vq _ (by omega) code hcode c3 0 hq4   (sq4.pick (.here)) fun r5 r5x1 r5x2 iq6 hq6 H lr5x1 lr5x2 hr5 sq6 => ?_)
 have kr5 := hr5
 obtain ⟨⟨oar5, obr5, ocr5⟩, wr5⟩ := kr5
 have gr5 := Hn hr5
 refine Dc sq6 fun i7 H s8 => Bg (cs' := [si r5.fLast, r5x1, r5x2]) s8 (.here) (Ac (Aa rfl (Aa lr5x1 (Aa lr5x2 rfl)))) rfl (A9 rfl) rfl fun H s9 => Gj (m := 5) hcode (by omega) s9 Cq fun z10 iq11 hq11 H hz10 sq11 => ?_
 replace hz10 : 0 ≤ z10 ∧ z10 < 5 := by omega
 refine Am (o' := 1) rfl (A0 (c := r5x1) sq11 A1 rfl (Hv sq11 Bu (K9 (Af ((decide (0 < ((r5.fFl.length : Nat) : Int)))) (fun h12 => ?_) fun h12 => ?_))))
 refine A6 h12 (A6 h12 (Xh hcode (by omega) sq11 (.here) fun b13 iq14 hq14 H sq14 => A6 h12 (He (G8 h12 (Hw (Af (b13) (fun h15 => ?_) fun h15 => ?_))))))
 refine Bt (nF h15) (Gd.bothE ?_ ?_)
 refine Ae sq14 A1 rfl (Bk (cs := [si 4, si 5, si 7, si 4, si 5, si 7, si 6, i0]) rfl (Bz sq14 fun i16 H s17 => Dd hcode (by omega) (by omega) rfl s17 A1 (.here) fun z18a iq19 hq19 H mz18 sq19 => ?_))
 have s20 := (sq19.pick A1).tail
 obtain ⟨z18, rfl, hz18⟩ := Ay (l := [4, 5, 7, 4, 5, 7, 6, 0]) (lo := 0) (hi := 7) mz18 (by decide)
 refine Bg (cs' := [si r5.fLast, r5x1, r5x2]) s20 E2 (Ac (Aa rfl (Aa lr5x1 (Aa lr5x2 rfl)))) rfl (A9 rfl) rfl fun H s21 => Ae s21 (.here) rfl ?_
 have e22 : OutB 400 (r5 : A7) := by
  first | assumption | exact hinv | (apply C0 <;> first | assumption | omega | (unfold Fb; omega) | (intro z hz; cases hz; done))
 have e23 : 0 ≤ z18 ∧ z18 ≤ 7 := by
  first | omega | (simp only [Br, Bj]; omega) | (simp; omega)
 have e24 : -9223372036854775808 ≤ z10 ∧ z10 ≤ 9223372036854775807 := by
  first | omega | (simp only [Br, Bj]; omega) | (simp; omega)
 exact hk (r5 : A7) r5x1 r5x2 z18 z10 _ lr5x1 lr5x2 e22 e23 e24 (s21.sel (.cons Cq (.cons Cq Yb)))
 refine Bk (cs := [si 4, si 5, si 7, si 4, si 5, si 7, si 6, i0]) rfl (Bz sq14 fun i25 H s26 => Gd.bothE ?_ ?_)
 refine Ae s26 Bu rfl (Dd hcode (by omega) (by omega) rfl s26 A1 (.here) fun z27a iq28 hq28 H mz27 sq28 => ?_)
 have s29 := (sq28.pick A1).tail
 obtain ⟨z27, rfl, hz27⟩ := Ay (l := [4, 5, 7, 4, 5, 7, 6, 0]) (lo := 0) (hi := 7) mz27 (by decide)
 refine Bg (cs' := [si r5.fLast, r5x1, r5x2]) s29 E2 (Ac (Aa rfl (Aa lr5x1 (Aa lr5x2 rfl)))) rfl (A9 rfl) rfl fun H s30 => Ae s30 (.here) rfl ?_
 have e31 : OutB 400 (r5 : A7) := by
  first | assumption | exact hinv | (apply C0 <;> first | assumption | omega | (unfold Fb; omega) | (intro z hz; cases hz; done))
 have e32 : 0 ≤ z27 ∧ z27 ≤ 7 := by
  first | omega | (simp only [Br, Bj]; omega) | (simp; omega)
 have e33 : -9223372036854775808 ≤ z10 ∧ z10 ≤ 9223372036854775807 := by
  first | omega | (simp only [Br, Bj]; omega) | (simp; omega)
 exact hk (r5 : A7) r5x1 r5x2 z27 z10 _ lr5x1 lr5x2 e31 e32 e33 (s30.sel (.cons Cq (.cons Cq Yb)))
 refine Dd hcode (by omega) (by omega) rfl s26 A1 (.here) fun z34a iq35 hq35 H mz34 sq35 => ?_
 have s36 := (sq35.pick A1).tail
 obtain ⟨z34, rfl, hz34⟩ := Ay (l := [4, 5, 7, 4, 5, 7, 6, 0]) (lo := 0) (hi := 7) mz34 (by decide)
 refine Ae s36 A1 rfl (Bg (cs' := [si r5.fLast, r5x1, r5x2]) s36 E2 (Ac (Aa rfl (Aa lr5x1 (Aa lr5x2 rfl)))) rfl (A9 rfl) rfl fun H s37 => Ae s37 (.here) rfl ?_)
 have e38 : OutB 400 (r5 : A7) := by
  first | assumption | exact hinv | (apply C0 <;> first | assumption | omega | (unfold Fb; omega) | (intro z hz; cases hz; done))
 have e39 : 0 ≤ z34 ∧ z34 ≤ 7 := by
  first | omega | (simp only [Br, Bj]; omega) | (simp; omega)
 have e40 : -9223372036854775808 ≤ z10 ∧ z10 ≤ 9223372036854775807 := by
  first | omega | (simp only [Br, Bj]; omega) | (simp; omega)
 exact hk (r5 : A7) r5x1 r5x2 z34 z10 _ lr5x1 lr5x2 e38 e39 e40 (s37.sel (.cons Cq (.cons Cq Yb)))
 refine Ci (nT h15) (Am (o' := 1) rfl (Am (o' := 1) rfl (A0 (c := r5x1) sq14 A1 rfl (Hv sq14 Bu (Gd.bothE ?_ ?_)))))
 refine A0 (c := r5x1) sq14 A1 rfl (Gj (m := ((r5.fFl.length : Nat) : Int)) hcode (by omega) sq14 (.here) fun z41 iq42 hq42 H hz41 sq42 => ?_)
 have s43 := sq42.toShs Bu
 obtain ⟨y44, he45⟩ : ∃ y, (r5.fFl)[(z41).toNat]? = some y := ⟨_, zam (by first | omega | (simp at *; omega))⟩
 refine J6 (y := y44) s43 ⟨_, _, rfl, rfl, rfl, rfl⟩ (.here) (by omega) he45 A5 Du rfl fun de45 oe45 raw hl hlf re45 hsc se45 => ?_
 obtain ⟨e45r2, le45r2, rfl⟩ := H0 hl hlf hsc
 clear hl hlf hsc
 have he45q := (Kv (p := Bw) obr5 he45).1
 simp only [Fb] at he45q
 refine Am (o' := oe45 + 0) (by omega) (Mt (k := 0) re45 (by omega) rfl (Gd.bothE ?_ ?_))
 refine Ae se45 Bu rfl (Bk (cs := [si 4, si 5, si 7, si 4, si 5, si 7, si 6, i0]) rfl (Bz se45 fun i46 H s47 => Dd hcode (by omega) (by omega) rfl s47 Bu (.here) fun z48a iq49 hq49 H mz48 sq49 => ?_))
 have s50 := (sq49.pick A1).tail
 obtain ⟨z48, rfl, hz48⟩ := Ay (l := [4, 5, 7, 4, 5, 7, 6, 0]) (lo := 0) (hi := 7) mz48 (by decide)
 refine Bg (cs' := [si r5.fLast, r5x1, r5x2]) s50 E2 (Ac (Aa rfl (Aa lr5x1 (Aa lr5x2 rfl)))) rfl (A9 rfl) rfl fun H s51 => Ae s51 (.here) rfl ?_
 have s52 := s51.ofShs Bu
 have e53 : OutB 400 (r5 : A7) := by
  first | assumption | exact hinv | (apply C0 <;> first | assumption | omega | (unfold Fb; omega) | (intro z hz; cases hz; done))
 have e54 : 0 ≤ z48 ∧ z48 ≤ 7 := by
  first | omega | (simp only [Br, Bj]; omega) | (simp; omega)
 have e55 : -9223372036854775808 ≤ y44.fId ∧ y44.fId ≤ 9223372036854775807 := by
  first | omega | (simp only [Br, Bj]; omega) | (simp; omega)
 exact hk (r5 : A7) r5x1 r5x2 z48 y44.fId _ lr5x1 lr5x2 e53 e54 e55 (s52.sel (.cons (.here) (.cons Cq Yb)))
 refine Bk (cs := [si 4, si 5, si 7, si 4, si 5, si 7, si 6, i0]) rfl (Bz se45 fun i56 H s57 => Gd.bothE ?_ ?_)
 refine Ae s57 Cq rfl (Dd hcode (by omega) (by omega) rfl s57 Bu (.here) fun z58a iq59 hq59 H mz58 sq59 => ?_)
 have s60 := (sq59.pick A1).tail
 obtain ⟨z58, rfl, hz58⟩ := Ay (l := [4, 5, 7, 4, 5, 7, 6, 0]) (lo := 0) (hi := 7) mz58 (by decide)
 refine Bg (cs' := [si r5.fLast, r5x1, r5x2]) s60 E2 (Ac (Aa rfl (Aa lr5x1 (Aa lr5x2 rfl)))) rfl (A9 rfl) rfl fun H s61 => Ae s61 (.here) rfl ?_
 have s62 := s61.ofShs Bu
 have e63 : OutB 400 (r5 : A7) := by
  first | assumption | exact hinv | (apply C0 <;> first | assumption | omega | (unfold Fb; omega) | (intro z hz; cases hz; done))
 have e64 : 0 ≤ z58 ∧ z58 ≤ 7 := by
  first | omega | (simp only [Br, Bj]; omega) | (simp; omega)
 have e65 : -9223372036854775808 ≤ y44.fId ∧ y44.fId ≤ 9223372036854775807 := by
  first | omega | (simp only [Br, Bj]; omega) | (simp; omega)
 exact hk (r5 : A7) r5x1 r5x2 z58 y44.fId _ lr5x1 lr5x2 e63 e64 e65 (s62.sel (.cons (.here) (.cons Cq Yb)))
 refine Dd hcode (by omega) (by omega) rfl s57 Bu (.here) fun z66a iq67 hq67 H mz66 sq67 => ?_
 have s68 := (sq67.pick A1).tail
 obtain ⟨z66, rfl, hz66⟩ := Ay (l := [4, 5, 7, 4, 5, 7, 6, 0]) (lo := 0) (hi := 7) mz66 (by decide)
 refine Ae s68 Bu rfl (Bg (cs' := [si r5.fLast, r5x1, r5x2]) s68 E2 (Ac (Aa rfl (Aa lr5x1 (Aa lr5x2 rfl)))) rfl (A9 rfl) rfl fun H s69 => Ae s69 (.here) rfl ?_)
 have s70 := s69.ofShs Bu
 have e71 : OutB 400 (r5 : A7) := by
  first | assumption | exact hinv | (apply C0 <;> first | assumption | omega | (unfold Fb; omega) | (intro z hz; cases hz; done))
 have e72 : 0 ≤ z66 ∧ z66 ≤ 7 := by
  first | omega | (simp only [Br, Bj]; omega) | (simp; omega)
 have e73 : -9223372036854775808 ≤ y44.fId ∧ y44.fId ≤ 9223372036854775807 := by
  first | omega | (simp only [Br, Bj]; omega) | (simp; omega)
 exact hk (r5 : A7) r5x1 r5x2 z66 y44.fId _ lr5x1 lr5x2 e71 e72 e73 (s70.sel (.cons (.here) (.cons Cq Yb)))
 refine Gj (m := ((r5.fFl.length : Nat) : Int)) hcode (by omega) sq14 (.here) fun z74 iq75 hq75 H hz74 sq75 => A0 (c := r5x1) sq75 A1 rfl ?_
 have s76 := sq75.toShs Bu
 obtain ⟨y77, he78⟩ : ∃ y, (r5.fFl)[(z74).toNat]? = some y := ⟨_, zam (by first | omega | (simp at *; omega))⟩
 refine J6 (y := y77) s76 ⟨_, _, rfl, rfl, rfl, rfl⟩ (.here) (by omega) he78 A5 Du rfl fun de78 oe78 raw hl hlf re78 hsc se78 => ?_
 obtain ⟨e78r2, le78r2, rfl⟩ := H0 hl hlf hsc
 clear hl hlf hsc
 have he78q := (Kv (p := Bw) obr5 he78).1
 simp only [Fb] at he78q
 refine Am (o' := oe78 + 0) (by omega) (Mt (k := 0) re78 (by omega) rfl (Gd.bothE ?_ ?_))
 refine Ae se78 Bu rfl (Bk (cs := [si 4, si 5, si 7, si 4, si 5, si 7, si 6, i0]) rfl (Bz se78 fun i79 H s80 => Dd hcode (by omega) (by omega) rfl s80 Bu (.here) fun z81a iq82 hq82 H mz81 sq82 => ?_))
 have s83 := (sq82.pick A1).tail
 obtain ⟨z81, rfl, hz81⟩ := Ay (l := [4, 5, 7, 4, 5, 7, 6, 0]) (lo := 0) (hi := 7) mz81 (by decide)
 refine Bg (cs' := [si r5.fLast, r5x1, r5x2]) s83 E2 (Ac (Aa rfl (Aa lr5x1 (Aa lr5x2 rfl)))) rfl (A9 rfl) rfl fun H s84 => Ae s84 (.here) rfl ?_
 have s85 := s84.ofShs Bu
 have e86 : OutB 400 (r5 : A7) := by
  first | assumption | exact hinv | (apply C0 <;> first | assumption | omega | (unfold Fb; omega) | (intro z hz; cases hz; done))
 have e87 : 0 ≤ z81 ∧ z81 ≤ 7 := by
  first | omega | (simp only [Br, Bj]; omega) | (simp; omega)
 have e88 : -9223372036854775808 ≤ y77.fId ∧ y77.fId ≤ 9223372036854775807 := by
  first | omega | (simp only [Br, Bj]; omega) | (simp; omega)
 exact hk (r5 : A7) r5x1 r5x2 z81 y77.fId _ lr5x1 lr5x2 e86 e87 e88 (s85.sel (.cons (.here) (.cons Cq Yb)))
 refine Bk (cs := [si 4, si 5, si 7, si 4, si 5, si 7, si 6, i0]) rfl (Bz se78 fun i89 H s90 => Gd.bothE ?_ ?_)
 refine Ae s90 Cq rfl (Dd hcode (by omega) (by omega) rfl s90 Bu (.here) fun z91a iq92 hq92 H mz91 sq92 => ?_)
 have s93 := (sq92.pick A1).tail
 obtain ⟨z91, rfl, hz91⟩ := Ay (l := [4, 5, 7, 4, 5, 7, 6, 0]) (lo := 0) (hi := 7) mz91 (by decide)
 refine Bg (cs' := [si r5.fLast, r5x1, r5x2]) s93 E2 (Ac (Aa rfl (Aa lr5x1 (Aa lr5x2 rfl)))) rfl (A9 rfl) rfl fun H s94 => Ae s94 (.here) rfl ?_
 have s95 := s94.ofShs Bu
 have e96 : OutB 400 (r5 : A7) := by
  first | assumption | exact hinv | (apply C0 <;> first | assumption | omega | (unfold Fb; omega) | (intro z hz; cases hz; done))
 have e97 : 0 ≤ z91 ∧ z91 ≤ 7 := by
  first | omega | (simp only [Br, Bj]; omega) | (simp; omega)
 have e98 : -9223372036854775808 ≤ y77.fId ∧ y77.fId ≤ 9223372036854775807 := by
  first | omega | (simp only [Br, Bj]; omega) | (simp; omega)
 exact hk (r5 : A7) r5x1 r5x2 z91 y77.fId _ lr5x1 lr5x2 e96 e97 e98 (s95.sel (.cons (.here) (.cons Cq Yb)))
 refine Dd hcode (by omega) (by omega) rfl s90 Bu (.here) fun z99a iq100 hq100 H mz99 sq100 => ?_
 have s101 := (sq100.pick A1).tail
 obtain ⟨z99, rfl, hz99⟩ := Ay (l := [4, 5, 7, 4, 5, 7, 6, 0]) (lo := 0) (hi := 7) mz99 (by decide)
 refine Ae s101 Bu rfl (Bg (cs' := [si r5.fLast, r5x1, r5x2]) s101 E2 (Ac (Aa rfl (Aa lr5x1 (Aa lr5x2 rfl)))) rfl (A9 rfl) rfl fun H s102 => Ae s102 (.here) rfl ?_)
 have s103 := s102.ofShs Bu
 have e104 : OutB 400 (r5 : A7) := by
  first | assumption | exact hinv | (apply C0 <;> first | assumption | omega | (unfold Fb; omega) | (intro z hz; cases hz; done))
 have e105 : 0 ≤ z99 ∧ z99 ≤ 7 := by
  first | omega | (simp only [Br, Bj]; omega) | (simp; omega)
 have e106 : -9223372036854775808 ≤ y77.fId ∧ y77.fId ≤ 9223372036854775807 := by
  first | omega | (simp only [Br, Bj]; omega) | (simp; omega)
 exact hk (r5 : A7) r5x1 r5x2 z99 y77.fId _ lr5x1 lr5x2 e104 e105 e106 (s103.sel (.cons (.here) (.cons Cq Yb)))
 refine Dx h12 (Dx h12 (Dx h12 (F3 h12 (Hw (Bt rfl (Gd.bothE ?_ ?_))))))
 refine Ae sq11 A1 rfl (Bk (cs := [si 4, si 5, si 7, si 4, si 5, si 7, si 6, i0]) rfl (Bz sq11 fun i107 H s108 => Dd hcode (by omega) (by omega) rfl s108 A1 (.here) fun z109a iq110 hq110 H mz109 sq110 => ?_))
 have s111 := (sq110.pick A1).tail
 obtain ⟨z109, rfl, hz109⟩ := Ay (l := [4, 5, 7, 4, 5, 7, 6, 0]) (lo := 0) (hi := 7) mz109 (by decide)
 refine Bg (cs' := [si r5.fLast, r5x1, r5x2]) s111 E2 (Ac (Aa rfl (Aa lr5x1 (Aa lr5x2 rfl)))) rfl (A9 rfl) rfl fun H s112 => Ae s112 (.here) rfl ?_
 have e113 : OutB 400 (r5 : A7) := by
  first | assumption | exact hinv | (apply C0 <;> first | assumption | omega | (unfold Fb; omega) | (intro z hz; cases hz; done))
 have e114 : 0 ≤ z109 ∧ z109 ≤ 7 := by
  first | omega | (simp only [Br, Bj]; omega) | (simp; omega)
 have e115 : -9223372036854775808 ≤ z10 ∧ z10 ≤ 9223372036854775807 := by
  first | omega | (simp only [Br, Bj]; omega) | (simp; omega)
 exact hk (r5 : A7) r5x1 r5x2 z109 z10 _ lr5x1 lr5x2 e113 e114 e115 (s112.sel (.cons Cq (.cons Cq Yb)))
 refine Bk (cs := [si 4, si 5, si 7, si 4, si 5, si 7, si 6, i0]) rfl (Bz sq11 fun i116 H s117 => Gd.bothE ?_ ?_)
 refine Ae s117 Bu rfl (Dd hcode (by omega) (by omega) rfl s117 A1 (.here) fun z118a iq119 hq119 H mz118 sq119 => ?_)
 have s120 := (sq119.pick A1).tail
 obtain ⟨z118, rfl, hz118⟩ := Ay (l := [4, 5, 7, 4, 5, 7, 6, 0]) (lo := 0) (hi := 7) mz118 (by decide)
 refine Bg (cs' := [si r5.fLast, r5x1, r5x2]) s120 E2 (Ac (Aa rfl (Aa lr5x1 (Aa lr5x2 rfl)))) rfl (A9 rfl) rfl fun H s121 => Ae s121 (.here) rfl ?_
 have e122 : OutB 400 (r5 : A7) := by
  first | assumption | exact hinv | (apply C0 <;> first | assumption | omega | (unfold Fb; omega) | (intro z hz; cases hz; done))
 have e123 : 0 ≤ z118 ∧ z118 ≤ 7 := by
  first | omega | (simp only [Br, Bj]; omega) | (simp; omega)
 have e124 : -9223372036854775808 ≤ z10 ∧ z10 ≤ 9223372036854775807 := by
  first | omega | (simp only [Br, Bj]; omega) | (simp; omega)
 exact hk (r5 : A7) r5x1 r5x2 z118 z10 _ lr5x1 lr5x2 e122 e123 e124 (s121.sel (.cons Cq (.cons Cq Yb)))
 refine Dd hcode (by omega) (by omega) rfl s117 A1 (.here) fun z125a iq126 hq126 H mz125 sq126 => ?_
 have s127 := (sq126.pick A1).tail
 obtain ⟨z125, rfl, hz125⟩ := Ay (l := [4, 5, 7, 4, 5, 7, 6, 0]) (lo := 0) (hi := 7) mz125 (by decide)
 refine Ae s127 A1 rfl (Bg (cs' := [si r5.fLast, r5x1, r5x2]) s127 E2 (Ac (Aa rfl (Aa lr5x1 (Aa lr5x2 rfl)))) rfl (A9 rfl) rfl fun H s128 => Ae s128 (.here) rfl ?_)
 have e129 : OutB 400 (r5 : A7) := by
  first | assumption | exact hinv | (apply C0 <;> first | assumption | omega | (unfold Fb; omega) | (intro z hz; cases hz; done))
 have e130 : 0 ≤ z125 ∧ z125 ≤ 7 := by
  first | omega | (simp only [Br, Bj]; omega) | (simp; omega)
 have e131 : -9223372036854775808 ≤ z10 ∧ z10 ≤ 9223372036854775807 := by
  first | omega | (simp only [Br, Bj]; omega) | (simp; omega)
 exact hk (r5 : A7) r5x1 r5x2 z125 z10 _ lr5x1 lr5x2 e129 e130 e131 (s128.sel (.cons Cq (.cons Cq Yb)))
theorem Va (n : Nat) (hn : 1048576 < n) (code : ByteArray) (hcode : code.size ≤ 1048576)   {β : Type} {r : Option β} {KH : KO β} {H : Ab} {L : List Ck} (s0 : Sep H (L)) (hk : ∀ (r0 : A7) (r0x1 : AV) (r0x2 : AV) (r1 : Cd) (r1x1 : AV) (H' : Ab), (Ap r0x1 = true) → (Ap r0x2 = true) → (OutB 400 r0) → (Ap r1x1 = true) → (Cp r1 ∧ Bo r1 ≤ 102) → Sep H' (.own r0x1 24 (Ai Aq r0.fFl) :: .own r0x2 25 (Ai Aj r0.fQ) :: .own r1x1 22 (A3 r1.fBody) :: L) → Gd (· = r) (KH (.tup [.agg [.sc (.int .i64 r0.fLast), r0x1, r0x2], .agg [.sc (.string r1.fTopic), r1x1, .sc (.int .i64 r1.fQos), .sc (.bool r1.fRetain)]]) H')) : Gd (· = r) (Di E0 (n + 20) β 17 [A3 code] H fun x H => KH x H) := by
 rw [Ahu, f17]
 try simp only [Qg, Qf]
 refine Dc s0 fun i1 H s2 => Dc s2 fun i3 H s4 => Ain hcode (by omega) s4 fun c5 hq6 H sq6 => Hh rfl rfl (Vq _ (by omega) code hcode c5 0 hq6   (sq6.pick (.here)) fun r7 r7x1 r7x2 iq8 hq8 H lr7x1 lr7x2 hr7 sq8 => ?_)
 have kr7 := hr7
 obtain ⟨⟨oar7, obr7, ocr7⟩, wr7⟩ := kr7
 have gr7 := Hn hr7
 refine Dc sq8 fun i9 H s10 => Bg (cs' := [si r7.fLast, r7x1, r7x2]) s10 (.here) (Ac (Aa rfl (Aa lr7x1 (Aa lr7x2 rfl)))) rfl (A9 rfl) rfl fun H s11 => Gd.bothE ?_ ?_
 refine Ae s11 (.here) rfl (Hh rfl rfl (Ow _ (by omega) code hcode c5 iq8 hq8   (s11.pick Cq) fun r12 r12x1 iq13 hq13 H lr12x1 hr12 sq13 => ?_))
 obtain ⟨or12, wr12⟩ := hr12
 have ur12 := or12
 have vr12 := wr12
 simp only [Cp, Bo, Ll, Fb, and_true, true_and] at ur12 vr12
 refine Bg (cs' := [si r7.fLast, r7x1, r7x2]) sq13 X9 (Ac (Aa rfl (Aa lr7x1 (Aa lr7x2 rfl)))) rfl (A9 rfl) rfl fun H s14 => Bg (cs' := [ss r12.fTopic, r12x1, si r12.fQos, sb r12.fRetain]) s14 X9 (Ac (Aa rfl (Aa lr12x1 rfl))) rfl (A9 rfl) rfl fun H s15 => Ae s15 A1 rfl (Ae s15 (.here) rfl ?_)
 have e16 : OutB 400 (r7 : A7) := by
  first | assumption | exact hinv | (apply C0 <;> first | assumption | omega | (unfold Fb; omega) | (intro z hz; cases hz; done))
 have e17 : Cp (r12 : Cd) ∧ Bo (r12 : Cd) ≤ 102 := by
  simp only [Cp, Bo, Ll, Fb, and_true, true_and, Bj]; first | omega | ((repeat' apply And.intro) <;> first | trivial | omega | assumption | (intro y hy; cases hy; done))
 exact hk (r7 : A7) r7x1 r7x2 (r12 : Cd) r12x1 _ lr7x1 lr7x2 e16 lr12x1 e17 (s15.sel (.cons Nk (.cons Nk (.cons Bu zS4))))
 refine Hh rfl rfl (Ow _ (by omega) code hcode c5 iq8 hq8   (s11.pick Cq) fun r18 r18x1 iq19 hq19 H lr18x1 hr18 sq19 => ?_)
 obtain ⟨or18, wr18⟩ := hr18
 have ur18 := or18
 have vr18 := wr18
 simp only [Cp, Bo, Ll, Fb, and_true, true_and] at ur18 vr18
 refine Ae sq19 Bu rfl (Bg (cs' := [si r7.fLast, r7x1, r7x2]) sq19 X9 (Ac (Aa rfl (Aa lr7x1 (Aa lr7x2 rfl)))) rfl (A9 rfl) rfl fun H s20 => Bg (cs' := [ss r18.fTopic, r18x1, si r18.fQos, sb r18.fRetain]) s20 X9 (Ac (Aa rfl (Aa lr18x1 rfl))) rfl (A9 rfl) rfl fun H s21 => Ae s21 A1 rfl (Ae s21 (.here) rfl ?_))
 have e22 : OutB 400 (r7 : A7) := by
  first | assumption | exact hinv | (apply C0 <;> first | assumption | omega | (unfold Fb; omega) | (intro z hz; cases hz; done))
 have e23 : Cp (r18 : Cd) ∧ Bo (r18 : Cd) ≤ 102 := by
  simp only [Cp, Bo, Ll, Fb, and_true, true_and, Bj]; first | omega | ((repeat' apply And.intro) <;> first | trivial | omega | assumption | (intro y hy; cases hy; done))
 exact hk (r7 : A7) r7x1 r7x2 (r18 : Cd) r18x1 _ lr7x1 lr7x2 e22 lr18x1 e23 (s21.sel (.cons Nk (.cons Nk (.cons Bu zS4))))
theorem Ai4 {b : Nat} {o : A7} {f : Ad} {i : Nat} (h : OutB b o) (hf : o.fFl[i]? = some f) : f.fM.fTopic.size ≤ b := by
 have h1 : wtS As o.fFl = wtS As o.fFl := rfl
 have h2 := Mc As o.fFl
 have h3 := Nj (wt := As) (zbF hf)
 have h4 := h.2
 have h5 : As f = (f.fM.fTopic.size + f.fM.fBody.size) + 0 := rfl
 omega
theorem W6 (n : Nat) (hn : 1048576 < n) (code : ByteArray) (k0 : Ll code) : Cs E0 (n + 34) 4 3 [A3 code] = some (.sc (.bool true)) := by
 rw [Bb, AiG, f3]
 refine G0 (G := (· = some bT)) ?_
 simp only [Qg, Qf]
 have s0 : Sep [] [] := Gz
 refine Co (v := .bool (decide ((1048576 : Int) < (code.size : Nat)))) s0 rfl (.cons .ro .nil) (AjS (n + 32) _ code) ?_
 by_cases hcode : code.size ≤ 1048576
 refine Bt (decide_eq_false (by omega)) (Hh rfl rfl (Tw _ (by omega) code hcode   s0 fun r1 r1x1 r1x2 H lr1x1 lr1x2 hr1 s2 => ?_))
 have kr1 := hr1
 obtain ⟨⟨oar1, obr1, ocr1⟩, wr1⟩ := kr1
 have gr1 := Hn hr1
 refine Dc s2 fun i3 H s4 => Bg (cs' := [si r1.fLast, r1x1, r1x2]) s4 (.here) (Ac (Aa rfl (Aa lr1x1 (Aa lr1x2 rfl)))) rfl (A9 rfl) rfl fun H s5 => Ae s5 (.here) rfl ?_
 obtain ⟨v6, ev6, ⟨bv6, gv6⟩, tv6⟩ := AgZ (n + 20) (by omega) r1 hr1
 refine Aa3 s5 rfl (.agg (.cons .sc (.cons (.own (by decide) A1) (.cons (.own (by decide) Bu) .nil))) .nil) (tv6) (AbZ v6) fun x7 H lx7 s8 => Ae s8 A1 rfl (Ae s8 A1 rfl (Co (v := (.bool (C9 r1))) s8 rfl (.agg (.cons .sc (.cons (.own (by decide) Bu) (.cons (.own (by decide) Cq) .nil))) .nil) (Lb (n + 23) (by omega) _ r1 (zaz hr1.wt (by decide))) (Co (v := (.bool (C9 r1))) s8 rfl (.agg (.cons .sc (.cons (.own (by decide) Bu) (.cons (.own (by decide) Cq) .nil))) .nil) (Pd (n + 23) (by omega) _ r1 (zaz hr1.wt (by decide))) (Zg (v := sb (!((C9 r1) == (C9 r1)))) (fun k => rfl) (Bt (nF (beq_self_eq_true _)) (Ae s8 A1 rfl (Co (v := (.bool (C9 r1))) s8 rfl (.agg (.cons .sc (.cons (.own (by decide) Bu) (.cons (.own (by decide) Cq) .nil))) .nil) (Lb (n + 23) (by omega) _ r1 (zaz hr1.wt (by decide))) (He (Af ((C9 r1)) (fun h9 => ?_) fun h9 => ?_)))))))))
 refine Bt (nF h9) ?_
 have hll := Pm ev6 h9
 have hl3 := (P4 h9).2
 have lp10 : ∀ (j m : Nat) (z : Int)  (i : Nat) (h : Int) (H : Ab), j < m → 0 ≤ z ∧ z + ((j : Nat) : Int) = max (((v6.length : Nat) : Int)) 0 → Sep H (.own x7 29 (Ai Bd v6) :: .blk i3 [si r1.fLast, r1x1, r1x2] true :: .own r1x1 24 (Ai Aq r1.fFl) :: .own r1x2 25 (Ai Aj r1.fQ) :: []) → Gd (· = some bT) (R0 (PR ((n + 33)) AV) ((n + 33)) (fun x H => Ba Ar E0.tp 4 H x) m (A3 code) (.ptr i3 0) (x7) (si z) H) := by
  intro j
  induction j with
  | zero =>
   intro m0 z  i h H hm hz   s0
   obtain ⟨m, rfl⟩ : ∃ m, m0 = m + 1 := ⟨m0 - 1, by omega⟩
   rw [R0]
   try simp only [Qg, Qf]
   refine Hv s0 (.here) (Mu (Bt (decide_eq_false (by omega)) (Hh rfl rfl (Wm _ (by omega) code hcode   s0 fun r11 r11x1 r11x2 r12 r13 H lr11x1 lr11x2 hr11 hr12 hr13 s14 => ?_))))
   have kr11 := hr11
   obtain ⟨⟨oar11, obr11, ocr11⟩, wr11⟩ := kr11
   have gr11 := Hn hr11
   refine Eb (v := .agg [si r11.fLast, r11x1, r11x2]) rfl (Eb (v := si r12) rfl (Eb (v := si r13) rfl (Dc s14 fun i15 H s16 => Bg (cs' := [si r11.fLast, r11x1, r11x2]) s16 (.here) (Ac (Aa rfl (Aa lr11x1 (Aa lr11x2 rfl)))) rfl (A9 rfl) rfl fun H s17 => Ae s17 (.here) rfl ?_)))
   obtain ⟨v18, pv18, zv18, bv18, ⟨lv18a, lv18b, lv18c⟩, tv18, uv18⟩ := AjR (n + 20) (by omega) r11 r12 r13 hr11
   have gv18 := Hn bv18
   refine I7 s17 rfl (.agg (.cons .sc (.cons (.own (by decide) A1) (.cons (.own (by decide) Bu) .nil))) (Hz .nil)) (tv18) rfl (G9 ⟨_, rfl, rfl⟩ (J7 _) (G9 ⟨_, rfl, rfl⟩ (Eh _) (Ds Ha))) ?_
   rintro _ _ H ⟨_, _, _, _, rfl, rfl, ⟨x25, x26, lx25, lx26, rfl, rfl⟩, ⟨_, _, _, _, rfl, rfl, ⟨x19, x20, x21, x22, x23, x24, lx19, lx20, lx21, lx22, lx23, lx24, rfl, rfl⟩, ⟨_, rfl, ⟨rfl, rfl⟩⟩⟩⟩ s27
   simp only [zah, zar] at s27
   refine Eb (v := .agg [si v18.fLast, x25, x26]) rfl (Eb (v := .agg [si pv18.fType, sb pv18.fDup, si pv18.fQos, sb pv18.fRetain, si pv18.fId, ss pv18.fTopic, x19, ss pv18.fClient, si pv18.fLevel, sb pv18.fClean, si pv18.fKeep, sb pv18.fHasWill, ss pv18.fWTopic, x20, si pv18.fWQos, sb pv18.fWRetain, sb pv18.fHasUser, ss pv18.fUser, sb pv18.fHasPass, x21, si pv18.fCode, sb pv18.fPresent, x22, x23, x24]) rfl (Eb (v := sb zv18) rfl (Dc s27 fun i28 H s29 => Dc s29 fun i30 H s31 => Bg (cs' := [si v18.fLast, x25, x26]) s31 A1 (Ac (Aa rfl (Aa lx25 (Aa lx26 rfl)))) rfl (A9 rfl) rfl fun H s32 => Bg (cs' := [si pv18.fType, sb pv18.fDup, si pv18.fQos, sb pv18.fRetain, si pv18.fId, ss pv18.fTopic, x19, ss pv18.fClient, si pv18.fLevel, sb pv18.fClean, si pv18.fKeep, sb pv18.fHasWill, ss pv18.fWTopic, x20, si pv18.fWQos, sb pv18.fWRetain, sb pv18.fHasUser, ss pv18.fUser, sb pv18.fHasPass, x21, si pv18.fCode, sb pv18.fPresent, x22, x23, x24]) s32 A1 (Ac (Aa rfl (Aa rfl (Aa rfl (Aa rfl (Aa rfl (Aa rfl (Aa lx19 (Aa rfl (Aa rfl (Aa rfl (Aa rfl (Aa rfl (Aa rfl (Aa lx20 (Aa rfl (Aa rfl (Aa rfl (Aa rfl (Aa rfl (Aa lx21 (Aa rfl (Aa rfl (Aa lx22 (Aa lx23 (Aa lx24 rfl)))))))))))))))))))))))))) rfl (A9 rfl) rfl fun H s33 => Ae s33 Nn rfl (I7 s33 rfl (.agg (.cons .sc (.cons (.own (by decide) Of) (.cons (.own (by decide) Aku) .nil))) (Hz .nil)) (uv18) rfl (G9 ⟨_, rfl, rfl⟩ (J7 _) (G9 ⟨_, rfl, rfl⟩ (Eh _) (Ds Ha))) ?_))))
   rintro _ _ H ⟨_, _, _, _, rfl, rfl, ⟨x40, x41, lx40, lx41, rfl, rfl⟩, ⟨_, _, _, _, rfl, rfl, ⟨x34, x35, x36, x37, x38, x39, lx34, lx35, lx36, lx37, lx38, lx39, rfl, rfl⟩, ⟨_, rfl, ⟨rfl, rfl⟩⟩⟩⟩ s42
   simp only [zah, zar] at s42
   refine Eb (v := .agg [si v18.fLast, x40, x41]) rfl (Eb (v := .agg [si pv18.fType, sb pv18.fDup, si pv18.fQos, sb pv18.fRetain, si pv18.fId, ss pv18.fTopic, x34, ss pv18.fClient, si pv18.fLevel, sb pv18.fClean, si pv18.fKeep, sb pv18.fHasWill, ss pv18.fWTopic, x35, si pv18.fWQos, sb pv18.fWRetain, sb pv18.fHasUser, ss pv18.fUser, sb pv18.fHasPass, x36, si pv18.fCode, sb pv18.fPresent, x37, x38, x39]) rfl (Eb (v := sb zv18) rfl (Dc s42 fun i43 H s44 => Dc s44 fun i45 H s46 => Bg (cs' := [si v18.fLast, x40, x41]) s46 A1 (Ac (Aa rfl (Aa lx40 (Aa lx41 rfl)))) rfl (A9 rfl) rfl fun H s47 => Bg (cs' := [si pv18.fType, sb pv18.fDup, si pv18.fQos, sb pv18.fRetain, si pv18.fId, ss pv18.fTopic, x34, ss pv18.fClient, si pv18.fLevel, sb pv18.fClean, si pv18.fKeep, sb pv18.fHasWill, ss pv18.fWTopic, x35, si pv18.fWQos, sb pv18.fWRetain, sb pv18.fHasUser, ss pv18.fUser, sb pv18.fHasPass, x36, si pv18.fCode, sb pv18.fPresent, x37, x38, x39]) s47 A1 (Ac (Aa rfl (Aa rfl (Aa rfl (Aa rfl (Aa rfl (Aa rfl (Aa lx34 (Aa rfl (Aa rfl (Aa rfl (Aa rfl (Aa rfl (Aa rfl (Aa lx35 (Aa rfl (Aa rfl (Aa rfl (Aa rfl (Aa rfl (Aa lx36 (Aa rfl (Aa rfl (Aa lx37 (Aa lx38 (Aa lx39 rfl)))))))))))))))))))))))))) rfl (A9 rfl) rfl fun H s48 => Hh rfl rfl (Va _ (by omega) code hcode   s48 fun r49 r49x1 r49x2 r50 r50x1 H lr49x1 lr49x2 hr49 lr50x1 hr50 s51 => ?_))))
   have kr49 := hr49
   obtain ⟨⟨oar49, obr49, ocr49⟩, wr49⟩ := kr49
   have gr49 := Hn hr49
   obtain ⟨or50, wr50⟩ := hr50
   have ur50 := or50
   have vr50 := wr50
   simp only [Cp, Bo, Ll, Fb, and_true, true_and] at ur50 vr50
   refine Eb (v := .agg [si r49.fLast, r49x1, r49x2]) rfl (Eb (v := .agg [ss r50.fTopic, r50x1, si r50.fQos, sb r50.fRetain]) rfl (Dc s51 fun i52 H s53 => Dc s53 fun i54 H s55 => Bg (cs' := [si r49.fLast, r49x1, r49x2]) s55 A1 (Ac (Aa rfl (Aa lr49x1 (Aa lr49x2 rfl)))) rfl (A9 rfl) rfl fun H s56 => Bg (cs' := [ss r50.fTopic, r50x1, si r50.fQos, sb r50.fRetain]) s56 A1 (Ac (Aa rfl (Aa lr50x1 rfl))) rfl (A9 rfl) rfl fun H s57 => Ae s57 A1 rfl (Ae s57 (.here) rfl ?_)))
   obtain ⟨v58, zv58, ev58, cv58, bv58, tv58, uv58⟩ := Ais (n + 22) (by omega) r49 r50 hr49 or50 wr50
   have gv58 := Hn bv58
   refine I7 s57 rfl (.agg (.cons .sc (.cons (.own (by decide) Bu) (.cons (.own (by decide) Cq) .nil))) (.agg (.cons .sc (.cons (.own (by decide) E2) (Hz .nil))) .nil)) (tv58) rfl (G9 ⟨_, rfl, rfl⟩ (J7 _) (Ds Ha)) ?_
   rintro _ _ H ⟨_, _, _, _, rfl, rfl, ⟨x59, x60, lx59, lx60, rfl, rfl⟩, ⟨_, rfl, ⟨rfl, rfl⟩⟩⟩ s61
   simp only [zah, zar] at s61
   refine Eb (v := .agg [si v58.fLast, x59, x60]) rfl (Eb (v := si zv58) rfl (Dc s61 fun i62 H s63 => Bg (cs' := [si v58.fLast, x59, x60]) s63 (.here) (Ac (Aa rfl (Aa lx59 (Aa lx60 rfl)))) rfl (A9 rfl) rfl fun H s64 => Ae s64 E2 rfl (Ae s64 Cq rfl (I7 s64 rfl (.agg (.cons .sc (.cons (.own (by decide) Nk) (.cons (.own (by decide) X9) .nil))) (.agg (.cons .sc (.cons (.own (by decide) Z8) (Hz .nil))) .nil)) (uv58) rfl (G9 ⟨_, rfl, rfl⟩ (J7 _) (Ds Ha)) ?_))))
   rintro _ _ H ⟨_, _, _, _, rfl, rfl, ⟨x65, x66, lx65, lx66, rfl, rfl⟩, ⟨_, rfl, ⟨rfl, rfl⟩⟩⟩ s67
   simp only [zah, zar] at s67
   refine Eb (v := .agg [si v58.fLast, x65, x66]) rfl (Eb (v := si zv58) rfl (Dc s67 fun i68 H s69 => Bg (cs' := [si v58.fLast, x65, x66]) s69 (.here) (Ac (Aa rfl (Aa lx65 (Aa lx66 rfl)))) rfl (A9 rfl) rfl fun H s70 => Hv s70 Ak7 (Am (o' := 1) rfl (A0 (c := r1x1) s70 AjP rfl (Hv s70 AjQ (Bp (A6 (decide_eq_true (congrArg (fun k : Nat => (k : Int)) (Pm ev6 h9))) (Am (o' := 1) rfl (A6 (decide_eq_true (congrArg (fun k : Nat => (k : Int)) (Pm ev6 h9))) (A0 (c := r1x1) s70 AjP rfl (A6 (decide_eq_true (congrArg (fun k : Nat => (k : Int)) (Pm ev6 h9))) (Hv s70 AjQ (A6 (decide_eq_true (congrArg (fun k : Nat => (k : Int)) (Pm ev6 h9))) (Ud (G8 (decide_eq_true (congrArg (fun k : Nat => (k : Int)) (Pm ev6 h9))) ?_)))))))))))))))
   refine A6 (decide_eq_true (by have := (P4 h9).2; omega)) (A6 (decide_eq_true (by have := (P4 h9).2; omega)) (A6 (decide_eq_true (by have := (P4 h9).2; omega)) (Zg (v := sb (zv18 == zv18)) (fun k => rfl) (G8 (decide_eq_true (by have := (P4 h9).2; omega)) (A6 (beq_self_eq_true _) (Ae s70 Ak0 rfl (A6 (beq_self_eq_true _) (Ae s70 Of rfl (A6 (beq_self_eq_true _) ?_)))))))))
   refine Co (v := (.bool (C1 pv18 pv18))) s70 rfl (.agg (F6 (.cons (.own (by decide) Ak6) (F6 (.cons (.own (by decide) Ak5) (K5 (.cons (.own (by decide) Ak4) (Hz (.cons (.own (by decide) Ak3) (.cons (.own (by decide) Ak2) (.cons (.own (by decide) Ak1) .nil)))))))))) (.agg (F6 (.cons (.own (by decide) Akz) (F6 (.cons (.own (by decide) Aky) (K5 (.cons (.own (by decide) Akx) (Hz (.cons (.own (by decide) Akw) (.cons (.own (by decide) Akv) (.cons (.own (by decide) Acn) .nil)))))))))) .nil)) (Gp (n + 31) (by omega) _ pv18 pv18 (by omega) (by omega) (by omega)) ?_
   refine G8 (beq_self_eq_true _) (A6 (Rc _) (A6 (Rc _) (A6 (Rc _) (Bp (G8 (Rc _) (A6 (decide_eq_true rfl) (A6 (decide_eq_true rfl) (Mv (A6 (decide_eq_true rfl) (Af ((decide (zv58 = 0))) (fun h71 => ?_) fun h71 => ?_))))))))))
   exact A6 (nF h71) (Ae s70 Cq rfl (A6 (nF h71) (Co (v := (.bool (C9 v58))) s70 rfl (.agg (.cons .sc (.cons (.own (by decide) Nk) (.cons (.own (by decide) E2) .nil))) .nil) (Lb (n + 23) (by omega) _ v58 (zaz bv58.wt (by decide))) (A6 (nF h71) (A6 (Kw ev58 cv58 h71).1 (Am (o' := 2) rfl (A6 (Kw ev58 cv58 h71).1 (A0 (c := x60) s70 Cq rfl (A6 (Kw ev58 cv58 h71).1 (Hv s70 E2 (A6 (Kw ev58 cv58 h71).1 (Am (o' := 2) rfl (A6 (Kw ev58 cv58 h71).1 (A0 (c := r49x2) s70 Z8 rfl (A6 (Kw ev58 cv58 h71).1 (Hv s70 D7 (A6 (Kw ev58 cv58 h71).1 (Gx (by omega) (by omega) (A6 (Kw ev58 cv58 h71).1 (Bp (A6 (nF h71) (G8 (Kw ev58 cv58 h71).1 (A6 (decide_eq_true rfl) (F3 (nF h71) (G8 (decide_eq_true rfl) (Dn rfl (congrArg (fun b => some (AV.sc (.bool b))) (decide_eq_true (Kw ev58 cv58 h71).2))))))))))))))))))))))))))))
   exact Dx (nT h71) (Dx (nT h71) (Dx (nT h71) (Ib (Ib (Ib (Ib (Ib (Ib (Ib (Ib (Dx (nT h71) (A6 (decide_eq_true rfl) (G8 (nT h71) (G8 (decide_eq_true rfl) (Dn rfl (congrArg (fun b => some (AV.sc (.bool b))) rfl))))))))))))))))
  | succ j ih =>
   intro m0 z  i h H hm hz   s0
   obtain ⟨m, rfl⟩ : ∃ m, m0 = m + 1 := ⟨m0 - 1, by omega⟩
   obtain ⟨pL, yL, qL, heL, hiL⟩ := Xy (l := v6) (z := z) (by omega) (by omega)
   obtain ⟨pF, fF, qF, heF, hiF⟩ := Xy (l := r1.fFl) (z := z) (by omega) (by omega)
   have hyL : (v6)[(z).toNat]? = some yL := by rw [heL, hiL]; simp
   have hyF : (r1.fFl)[(z).toNat]? = some fF := by rw [heF, hiF]; simp
   have hag := Ai8 ev6 h9 hyL hyF
   have hfg := Ai9 h9 hyF
   rw [R0]
   try simp only [Qg, Qf]
   refine Hv s0 (.here) (Mu (Ci (decide_eq_true (by omega)) (Am (o' := 1) rfl (A0 (c := r1x1) s0 A1 rfl ?_))))
   have s72 := s0.toShs Bu
   have he74 : (r1.fFl)[(z).toNat]? = some fF := by rw [heF, hiF]; simp
   refine J6 (y := fF) s72 ⟨_, _, rfl, rfl, rfl, rfl⟩ (.here) (by omega) he74 A5 Du rfl fun de74 oe74 raw hl hlf re74 hsc se74 => ?_
   obtain ⟨e74r2, le74r2, rfl⟩ := H0 hl hlf hsc
   clear hl hlf hsc
   refine N7 re74 (Dc se74 fun i75 H s76 => Bg (cs' := [si fF.fId, ss fF.fM.fTopic, e74r2, si fF.fM.fQos, sb fF.fM.fRetain, si fF.fSt]) s76 (.here) (Ac (Aa rfl (Aa rfl (Aa le74r2 rfl)))) rfl (A9 rfl) rfl fun H s77 => ?_)
   have s78 := s77.toShs Bu
   have he80 : (v6)[(z).toNat]? = some yL := by rw [heL, hiL]; simp
   refine J6 (y := yL) s78 ⟨_, _, rfl, rfl, rfl, rfl⟩ (.here) (by omega) he80 H6 Dv rfl fun de80 oe80 raw hl hlf re80 hsc se80 => ?_
   obtain ⟨e80r6, e80r13, e80r19, e80r22, e80r23, e80r24, le80r6, le80r13, le80r19, le80r22, le80r23, le80r24, rfl⟩ := Iu hl hlf hsc
   clear hl hlf hsc
   refine N7 re80 (Co (v := (.bool true)) se80 rfl (.agg (F6 (.cons (.shsE (k := 6) (by decide) (.here) rfl) (F6 (.cons (.shsE (k := 13) (by decide) (.here) rfl) (K5 (.cons (.shsE (k := 19) (by decide) (.here) rfl) (Hz (.cons (.shsE (k := 22) (by decide) (.here) rfl) (.cons (.shsE (k := 23) (by decide) (.here) rfl) (.cons (.shsE (k := 24) (by decide) (.here) rfl) .nil)))))))))) .nil) (AbP (n + 25) (by omega) yL fF hag hfg (by have := Ai4 hr1 hyF; omega)) (He (A6 (nF rfl) (A6 (nF rfl) (A6 (nF rfl) ?_)))))
   have he82 : (v6)[(z).toNat]? = some yL := by rw [heL, hiL]; simp
   refine J6 (y := yL) se80 ⟨_, _, rfl, rfl, rfl, rfl⟩ (.here) (by omega) he82 H6 Dv rfl fun de82 oe82 raw hl hlf re82 hsc se82 => ?_
   obtain ⟨e82r6, e82r13, e82r19, e82r22, e82r23, e82r24, le82r6, le82r13, le82r19, le82r22, le82r23, le82r24, rfl⟩ := Iu hl hlf hsc
   clear hl hlf hsc
   refine A6 (nF rfl) (Am (o' := oe82 + 4) (by omega) (A6 (nF rfl) (Mt (k := 4) re82 (by omega) rfl (A6 (nF rfl) (Am (o' := 0) rfl (A6 (nF rfl) (A0 (c := si fF.fId) se82 A1 rfl (A6 (nF rfl) (Mv (F3 (nF rfl) (A6 (nF (decide_eq_true (Mm hag hfg))) (A6 (nF (decide_eq_true (Mm hag hfg))) (A6 (nF (decide_eq_true (Mm hag hfg))) ?_)))))))))))))
   have he84 : (v6)[(z).toNat]? = some yL := by rw [heL, hiL]; simp
   refine J6 (y := yL) se82 ⟨_, _, rfl, rfl, rfl, rfl⟩ (.here) (by omega) he84 H6 Dv rfl fun de84 oe84 raw hl hlf re84 hsc se84 => ?_
   obtain ⟨e84r6, e84r13, e84r19, e84r22, e84r23, e84r24, le84r6, le84r13, le84r19, le84r22, le84r23, le84r24, rfl⟩ := Iu hl hlf hsc
   clear hl hlf hsc
   refine A6 (nF (decide_eq_true (Mm hag hfg))) (Am (o' := oe84 + 0) (by omega) (A6 (nF (decide_eq_true (Mm hag hfg))) (Mt (k := 0) re84 (by omega) rfl (A6 (nF (decide_eq_true (Mm hag hfg))) (Bp (A6 (nF (decide_eq_true (Mm hag hfg))) (Am (o' := 5) rfl (A6 (nF (decide_eq_true (Mm hag hfg))) (A0 (c := si fF.fSt) se84 A1 rfl (A6 (nF (decide_eq_true (Mm hag hfg))) (Bp (A6 (nF (decide_eq_true (Mm hag hfg))) (Zg (v := sb (!((decide (yL.fType = 6)) == (decide (fF.fSt = 3))))) (fun k => rfl) (F3 (nF (decide_eq_true (Mm hag hfg))) (A6 (nF (Ju hag hfg)) (A6 (nF (Ju hag hfg)) (A6 (nF (Ju hag hfg)) ?_)))))))))))))))))
   have he86 : (v6)[(z).toNat]? = some yL := by rw [heL, hiL]; simp
   refine J6 (y := yL) se84 ⟨_, _, rfl, rfl, rfl, rfl⟩ (.here) (by omega) he86 H6 Dv rfl fun de86 oe86 raw hl hlf re86 hsc se86 => ?_
   obtain ⟨e86r6, e86r13, e86r19, e86r22, e86r23, e86r24, le86r6, le86r13, le86r19, le86r22, le86r23, le86r24, rfl⟩ := Iu hl hlf hsc
   clear hl hlf hsc
   refine A6 (nF (Ju hag hfg)) (Am (o' := oe86 + 0) (by omega) (A6 (nF (Ju hag hfg)) (Mt (k := 0) re86 (by omega) rfl (A6 (nF (Ju hag hfg)) (Bp (A6 (nF (Ju hag hfg)) (Af ((decide (yL.fType = 3))) (fun h87 => ?_) fun h87 => ?_)))))))
   refine A6 h87 (A6 h87 (A6 h87 ?_))
   have he89 : (v6)[(z).toNat]? = some yL := by rw [heL, hiL]; simp
   refine J6 (y := yL) se86 ⟨_, _, rfl, rfl, rfl, rfl⟩ (.here) (by omega) he89 H6 Dv rfl fun de89 oe89 raw hl hlf re89 hsc se89 => ?_
   obtain ⟨e89r6, e89r13, e89r19, e89r22, e89r23, e89r24, le89r6, le89r13, le89r19, le89r22, le89r23, le89r24, rfl⟩ := Iu hl hlf hsc
   clear hl hlf hsc
   refine A6 h87 (Am (o' := oe89 + 1) (by omega) (A6 h87 (Mt (k := 1) re89 (by omega) rfl (A6 h87 (He (A6 h87 (A6 (nF (Fp hag hfg h87).1) (A6 (nF (Fp hag hfg h87).1) (A6 (nF (Fp hag hfg h87).1) ?_)))))))))
   have he91 : (v6)[(z).toNat]? = some yL := by rw [heL, hiL]; simp
   refine J6 (y := yL) se89 ⟨_, _, rfl, rfl, rfl, rfl⟩ (.here) (by omega) he91 H6 Dv rfl fun de91 oe91 raw hl hlf re91 hsc se91 => ?_
   obtain ⟨e91r6, e91r13, e91r19, e91r22, e91r23, e91r24, le91r6, le91r13, le91r19, le91r22, le91r23, le91r24, rfl⟩ := Iu hl hlf hsc
   clear hl hlf hsc
   refine A6 (nF (Fp hag hfg h87).1) (Am (o' := oe91 + 5) (by omega) (A6 (nF (Fp hag hfg h87).1) (Mt (k := 5) re91 (by omega) rfl (A6 (nF (Fp hag hfg h87).1) (Am (o' := 1) rfl (A6 (nF (Fp hag hfg h87).1) (Am (o' := 1) rfl (A6 (nF (Fp hag hfg h87).1) (A0 (c := .sc (.string fF.fM.fTopic)) se91 A1 rfl (A6 (nF (Fp hag hfg h87).1) (Aif (A6 h87 (F3 (nF (Fp hag hfg h87).1) (A6 h87 (A6 (nF (by rw [(Fp hag hfg h87).2.1]; exact beq_self_eq_true _)) (A6 (nF (by rw [(Fp hag hfg h87).2.1]; exact beq_self_eq_true _)) (A6 (nF (by rw [(Fp hag hfg h87).2.1]; exact beq_self_eq_true _)) ?_)))))))))))))))))
   have he93 : (v6)[(z).toNat]? = some yL := by rw [heL, hiL]; simp
   refine J6 (y := yL) se91 ⟨_, _, rfl, rfl, rfl, rfl⟩ (.here) (by omega) he93 H6 Dv rfl fun de93 oe93 raw hl hlf re93 hsc se93 => ?_
   obtain ⟨e93r6, e93r13, e93r19, e93r22, e93r23, e93r24, le93r6, le93r13, le93r19, le93r22, le93r23, le93r24, rfl⟩ := Iu hl hlf hsc
   clear hl hlf hsc
   refine A6 (nF (by rw [(Fp hag hfg h87).2.1]; exact beq_self_eq_true _)) (Am (o' := oe93 + 6) (by omega) (A6 (nF (by rw [(Fp hag hfg h87).2.1]; exact beq_self_eq_true _)) (Mt (k := 6) re93 (by omega) rfl (A6 (nF (by rw [(Fp hag hfg h87).2.1]; exact beq_self_eq_true _)) (Am (o' := 1) rfl (A6 (nF (by rw [(Fp hag hfg h87).2.1]; exact beq_self_eq_true _)) (Am (o' := 2) rfl (A6 (nF (by rw [(Fp hag hfg h87).2.1]; exact beq_self_eq_true _)) (A0 (c := e74r2) se93 A1 rfl (A6 (nF (by rw [(Fp hag hfg h87).2.1]; exact beq_self_eq_true _)) (Co (v := (.bool true)) se93 rfl (.cons (.shsE (k := 6) (by decide) (.here) rfl) (.cons (.shsE (k := 2) (by decide) Bu rfl) .nil)) (Aiz _ _ _ _ (Fp hag hfg h87).2.2) (A6 (nF (by rw [(Fp hag hfg h87).2.1]; exact beq_self_eq_true _)) (He (A6 h87 (F3 (nF (by rw [(Fp hag hfg h87).2.1]; exact beq_self_eq_true _)) (A6 (nF (Ju hag hfg)) (G8 h87 (F3 (nF (Ju hag hfg)) (Bt (nF rfl) (Gx (by omega) (by omega) ?_))))))))))))))))))))
   have s94 := se93.ofShs (.here)
   have s95 := s94.ofShs Bu
   exact ih m _  0 0 _ (by omega) (by omega)   (s95.sel (.cons A1 (.cons Bu (.cons (.here) (.cons A1 (.skip .nil))))))
   refine Dx h87 (Dx h87 (Dx h87 (Dx h87 (Dx h87 (Dx h87 (Dx h87 (Ib (Ib (Ib (Ib (Ib (Ib (Ib (Ib (Ib (Dx h87 (Dx h87 (Ib (Ib (Ib (Ib (Ib (Ib (Ib (Ib (Ib (Ib (Dx h87 (A6 (nF (Ju hag hfg)) (F3 h87 (F3 (nF (Ju hag hfg)) (Bt rfl (Gx (by omega) (by omega) ?_)))))))))))))))))))))))))))))))))
   have s96 := se86.ofShs (.here)
   have s97 := s96.ofShs Bu
   exact ih m _  0 0 _ (by omega) (by omega)   (s97.sel (.cons A1 (.cons Bu (.cons (.here) (.cons A1 (.skip .nil))))))
 exact lp10 (max (((v6.length : Nat) : Int)) 0 - 0).toNat _ _  0 0 _ (by omega) (by omega)   (s8.sel (.cons (.here) (.cons (.here) (.cons (.here) (.cons (.here) .nil)))))
 exact Ci (nT h9) (Hv s8 (.here) (Bp (Dn rfl (congrArg (fun b => some (AV.sc (.bool b))) (decide_eq_true (AgY ev6 h9))))))
 exact Ci (decide_eq_true (by omega)) (Dn rfl rfl)
end
end Go.Proofs.YtdofipeaomgbbaaGreatDoor.Abs
namespace Go.Proofs.YtdofipeaomgbbaaGreatDoor.Abs
open _root_.Option renaming bind_some → zab, getD_some → zaC, map_eq_some_iff → zaT
open _root_.List renaming getElem?_eq_some_iff → zac, replicate → zad, length_append → zag, nil_append → zah, append_assoc → zaj, getElem?_eq_getElem → zam, append_nil → zan, length_singleton → zao, mem_append_right → zap, cons_append → zar, mem_append_left → zas, mem_cons_of_mem → zat, map_cons → zau, length_cons → zav, length_nil → zay, getElem?_set_ne → za1, mem_cons → za2, all_eq_true → za3, forall_mem_append → za4, map_append → za5, length_take → za6, mem_cons_self → za8, replicate_append_replicate → zaB, length_drop → zaF, nodup_cons → zaH, not_mem_nil → zaI, mem_append → zaJ, take_append_drop → zaL, nodup_append → zaP, mem_range'_1 → zaQ, drop_drop → zaV, getElem?_map → zaZ, nodup_range' → zbb, getElem?_set_self → zbf, any_cons → zbg, length_set → zbh, range' → zbk, map_nil → zbs, take_of_length_le → zbv, Perm → zb1, mem_singleton → zb6, headD_cons → zbB, length_map → zbC, mem_of_getElem? → zbF, tail_cons → zbG, drop_take → zbH, take_take → zbI, drop_left' → zbL
open _root_.Bool renaming and_eq_true → zai, false_eq_true → zal, or_eq_false_iff → zbE
open _root_.Nat renaming le_refl → zak, zero_add → zaw, le_trans → zaz, mul_le_mul_right → za7, add_le_add_right → za9, add_le_add_left → zaD, min_eq_left → zaK, add_mul → zaM, zero_le → zaN, add_zero → zbd, one_mul → zbt
open _root_.Int renaming toNat_natCast → zbm
open Go
set_option linter.unusedVariables false
set_option linter.unusedSimpArgs false
end Go.Proofs.YtdofipeaomgbbaaGreatDoor.Abs
namespace Go.Proofs.YtdofipeaomgbbaaGreatDoor.fnAgain
open _root_.Option renaming map_eq_some_iff → zaT
open Go Go.Shelf Go.Lib Go.ChangeShapes Go.WideShapes Go.ChangeAt Go.RowKit
open Go.Proofs.YtdofipeaomgbbaaGreatDoor.Abs
set_option linter.unusedVariables false
theorem own : ownKnob Tryz.prog.godebug = none := by kernel_rfl
theorem Agb : laidOutB Tryz.prog = true := by kernel_rfl
theorem types : ([22].all (tyB Ar 14)) = true := by kernel_rfl
theorem AeD : ([22].all fun t => Tryz.prog.readableRec t && decide (t < Tryz.prog.types.size)) = true := by kernel_rfl
theorem AjJ {xs : List AV} (h : Aiq Ar 14 [22] xs) : ∃ n, Cs E0 n 4 3 xs = some (.sc (.bool true)) := by
 obtain ⟨y0, ys0, rfl, ⟨cs0, h0, rfl⟩, h⟩ := h
 obtain rfl := h
 obtain ⟨x0, rfl, k0⟩ := Zt ⟨_, rfl, rfl, rfl, rfl, rfl, rfl⟩ h0
 exact ⟨_, W6 1048577 (by omega) x0 k0⟩
def wArgs : Array Value := #[.slice none 0 0]
noncomputable def M8 (os : Os) : World :=
 let w0 := World.holding Tryz.prog os ⟨#[], #[], []⟩
 let put (h : Array Obj) (g : Nat) (cs : Array Value) : Array Obj := h.modify g fun
  | .cells _ t frozen => .cells cs t frozen
  | o => o
 let h1 := put w0.heap 0 (Lib.firstTab.map fun z => Value.int .u8 z).toArray
 let h2 := put h1 1 ((List.range 16).flatMap fun i => [Value.int .u8 (Lib.accLo i), Value.int .u8 (Lib.accHi i)]).toArray
 { w0 with heap := h2 }
theorem Ae0 (os : Os) (args : Array Value) : laidMet Tryz.prog Rows.fnAgainRow.laid ((M8 os).forCall (fun _ _ => 0) ⟨#[], args, []⟩).memory :=
 (LaidIn.of_run (l := Rows.fnAgainRow.laid) [0, 1] 8 (by kernel_rfl) (by kernel_rfl) (by kernel_rfl) (by kernel_rfl)).met
set_option maxRecDepth 100000 in
theorem X8 (os : Os) {H : Type} (enc : TypeId × Value → H) :
  (OpenSpec.ofChange Rows.fnAgainSpec).preRow enc Tryz.prog Tryz.f3 Rows.fnAgainRow.domain false Rows.fnAgainRow.laid ((M8 os).forCall (fun _ _ => 0) ⟨#[], wArgs, []⟩).memory wArgs := by
 have hw : ((DataW.whole enc Tryz.prog ((M8 os).forCall (fun _ _ => 0) ⟨#[], wArgs, []⟩).memory Tryz.f3.params.toList (OpenSpec.ofChange Rows.fnAgainSpec).vars false wArgs.toList 8).map (fun x => x.2.1)) = some [] := by kernel_rfl
 obtain ⟨⟨x1, x2, x3⟩, hx, hx1⟩ := zaT.1 hw
 simp only at hx1
 subst hx1
 exact OpenSpec.preRow_of_cond 8 hx rfl (fun k hk => by cases hk) rfl (Ae0 os _)
set_option maxRecDepth 100000 in
set_option maxHeartbeats 2000000 in
theorem lifted (os : Os) (started : os.Started) (H : Type) (enc : TypeId × Value → H) (F : Stop.Interp) :
  ReturnsInHanded {} Tryz.checked os 3 .any ((OpenSpec.ofChange Rows.fnAgainSpec).preRow enc Tryz.prog Tryz.f3 Rows.fnAgainRow.domain false Rows.fnAgainRow.laid) (((OpenSpec.ofChange Rows.fnAgainSpec).at F).post enc Tryz.prog Tryz.f3 false true false false) := by
 refine returnsInHanded_of_row (C := Tryz.checked) (s := OpenSpec.ofChange Rows.fnAgainSpec) own started (by kernel_rfl) Tryz.func3
  (witness_row_atRef (enc := enc) (C := Tryz.checked) false (M8 os) wArgs rfl (by kernel_rfl) (by kernel_rfl) (by kernel_rfl) (X8 os enc)) ?_
 intro W base args ds gs before hval0 hW _ _ _ hL hS _
 have hval : ∀ (j : Nat) t v, Tryz.f3.params[j]? = some t → args[j]? = some v → Value.okWide Tryz.prog W .any base t v := hval0
 have hW' := hW
 obtain ⟨p, q, hA0, hV, rfl, hfz, hnd⟩ := hW
 have hA : DataW.TrodAll enc Tryz.prog W 0 (fun _ => true) true Tryz.f3.params.toList args.toList ds p := hA0
 rw [Tryz.params3] at hA hval
 obtain ⟨xs, hok, hl, hx⟩ := Rk Z4 (n := 14) [22] args.toList ds p hA (fun j t v ht hv => hval j t v (by simpa using ht) (by simpa using hv)) types
 obtain ⟨m, hm⟩ := AjJ hok
 have htab0 := utf8Tabs_of_readsT (U8Types.of196 Tryz.laysValid) ⟨by kernel_rfl, by kernel_rfl, by kernel_rfl, by kernel_rfl, by kernel_rfl, by kernel_rfl, by kernel_rfl⟩ (Pinned.utf8First_eq ▸ Lib.laidMet.reads hL (.tail _ (.head _))) (Lib.laidMet.reads hL (.head _))
 have htab : J0 W := ⟨htab0, cell_of_shapedOpen_int (zero := #[.int .i64 0]) hS (of_decide_eq_true (by kernel_rfl)) (by kernel_rfl) rfl (by kernel_rfl) (by kernel_rfl) Tryz.underlying3⟩
 have hc := Acm Akh hm (w := W) htab hl hx
 have hA1 := hA
 obtain ⟨v0, vs0, d0, ds0, p0, q0, hargs, rfl, rfl, g0, r0⟩ := trodAll_cons hA
 obtain ⟨rfl, rfl, rfl⟩ := trodAll_nil r0
 obtain ⟨rfl, rfl⟩ := trodVars_none hV
 have hc2 : Calls Tryz.prog 3 args W fun e W' => e = .returned (.bool true) ∧ Below W.heap.size W W' := by simpa using hc
 refine hc2.mono fun e W' ⟨he, bel⟩ => ?_
 subst he
 exact ⟨_, rfl, _, _, _, [], _, [], hW', trodAll_mk1 (shut_bool Tryz.underlying4 _), Nv Agb bel AeD hA1, rfl, bel.frame _, fun h => by cases h⟩
end Go.Proofs.YtdofipeaomgbbaaGreatDoor.fnAgain
