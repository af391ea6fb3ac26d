/- The law FnExactOutAgain and its row: every input, no condition (written by laws.py). -/
import Derived.Test.YtejjggnchdldoaaGreatDoorMe
import Derived.Test.YtejjggnchdldoaaGreatDoorRows
import Derived.Test.YtejjggnchdldoaaGreatDoorTie
import Derived.Test.YtejjggnchdldoaaGreatDoorCards
import Derived.Lib.LaidIn
import Derived.Lib.LaidU8T
import Derived.PinnedBridge
import Derived.SevenTiedAt
import Derived.Deep.DeepHandedRow
import Derived.Deep.DeepWitnessRowRef
import Derived.WalkKit
import Derived.ProofKit
import Derived.OpenShut
import Derived.ShutString
import Derived.ChangeOld
import Derived.Below
import Derived.SizedLaws
set_option linter.unusedVariables false
set_option linter.unusedSimpArgs false
namespace Go.Proofs.YtejjggnchdldoaaGreatDoor.Abs
open Go
inductive MF where
 | str
 | int
 | bool
 | byt
 | skip
 | sub (fs : List MF)
def repF (n : Nat) (fs : List MF) : List MF := (List.replicate n fs).flatten
theorem repF_succ (n : Nat) (fs : List MF) : repF (n + 1) fs = fs ++ repF n fs := by rw [repF, List.replicate_succ, List.flatten_cons, repF]
theorem repF_len (n : Nat) (fs : List MF) : (repF n fs).length = n * fs.length := by simp [repF]
def digs (k : Nat) (out : ByteArray) : ByteArray := if h : k = 0 then out else digs (k / 10) (⟨#[UInt8.ofNat (48 + k % 10)]⟩ ++ out)
termination_by k
decreasing_by omega
def mTxt (k : Int) : ByteArray := ⟨#[109]⟩ ++ (if k ≤ 0 then ⟨#[48]⟩ else digs k.toNat ⟨#[]⟩)
mutual
def mkF (f : MF) (k : Int) : AV → AV × Int
 | .sc v =>
  match f with
  | .str => (.sc (.string (mTxt k)), k + 1)
  | .int => (.sc (.int .i64 k), k + 1)
  | .bool => (.sc (.bool (k.tmod 3 == 0)), k + 1)
  | .byt => (.sc (.int .u8 (IntKind.u8.wrap k)), k + 1)
  | _ => (.sc v, k)
 | .ro n cells =>
  match f with
  | .sub fs => (.ro n (mkL (repF n fs) k cells).1, (mkL (repF n fs) k cells).2)
  | _ => (.ro n cells, k)
 | x => (x, k)
def mkL (fs : List MF) (k : Int) : List AV → List AV × Int
 | [] => ([], k)
 | c :: cs => ((mkF (fs.headD .skip) k c).1 :: (mkL fs.tail (mkF (fs.headD .skip) k c).2 cs).1, (mkL fs.tail (mkF (fs.headD .skip) k c).2 cs).2)
end
mutual
def cntF (f : MF) : AV → Nat
 | .sc v =>
  match f with
  | .skip => 0
  | .sub _ => 0
  | _ => 1
 | .ro n cells =>
  match f with
  | .sub fs => cntL (repF n fs) cells
  | _ => 0
 | _ => 0
def cntL (fs : List MF) : List AV → Nat
 | [] => 0
 | c :: cs => cntF (fs.headD .skip) c + cntL fs.tail cs
end
mutual
def wfF (f : MF) : AV → Prop
 | .sc v =>
  match f, v with
  | .str, .string _ => True
  | .int, .int .i64 _ => True
  | .bool, .bool _ => True
  | .byt, .int .u8 _ => True
  | .skip, v => leafV v = true
  | _, _ => False
 | .ro n cells =>
  match f with
  | .sub fs => n ≤ 1048576 ∧ cells.length = n * fs.length ∧ wfL (repF n fs) cells
  | _ => False
 | _ => False
def wfL (fs : List MF) : List AV → Prop
 | [] => fs = []
 | c :: cs => fs ≠ [] ∧ wfF (fs.headD .skip) c ∧ wfL fs.tail cs
end
mutual
def nbT : AV → Nat
 | .ro _ cells => 1 + nbL cells
 | .agg cs => nbL cs
 | .tup cs => nbL cs
 | _ => 0
def nbL : List AV → Nat
 | [] => 0
 | c :: cs => nbT c + nbL cs
end
section lists
theorem mkL_cons (f : MF) (fs : List MF) (k : Int) (c : AV) (cs : List AV) : mkL (f :: fs) k (c :: cs) = ((mkF f k c).1 :: (mkL fs (mkF f k c).2 cs).1, (mkL fs (mkF f k c).2 cs).2) := rfl
theorem mkL_append : ∀ (A B : List MF) (k : Int) (X Y : List AV), A.length = X.length → mkL (A ++ B) k (X ++ Y) = ((mkL A k X).1 ++ (mkL B (mkL A k X).2 Y).1, (mkL B (mkL A k X).2 Y).2)
 | [], B, k, [], Y, _ => by simp [mkL]
 | f :: A, B, k, x :: X, Y, h => by
  have ih := mkL_append A B (mkF f k x).2 X Y (by simpa using h)
  rw [List.cons_append, List.cons_append, mkL_cons, mkL_cons, ih]
  rfl
theorem cntL_append : ∀ (A B : List MF) (X Y : List AV), A.length = X.length → cntL (A ++ B) (X ++ Y) = cntL A X + cntL B Y
 | [], B, [], Y, _ => by simp [cntL]
 | f :: A, B, x :: X, Y, h => by
  have ih := cntL_append A B X Y (by simpa using h)
  show cntF f x + cntL (A ++ B) (X ++ Y) = cntF f x + cntL A X + cntL B Y
  rw [ih, Nat.add_assoc]
theorem wfL_cons {f : MF} {fs : List MF} {c : AV} {cs : List AV} : wfL (f :: fs) (c :: cs) ↔ wfF f c ∧ wfL fs cs := by
 show (f :: fs ≠ [] ∧ wfF f c ∧ wfL fs cs) ↔ _
 simp
theorem wfL_len : ∀ {fs : List MF} {cs : List AV}, wfL fs cs → fs.length = cs.length
 | fs, [], h => by
  have : fs = [] := h
  rw [this]
  rfl
 | [], _ :: _, h => absurd rfl h.1
 | f :: fs, c :: cs, h => by
  have := wfL_len (wfL_cons.1 h).2
  simp [this]
theorem wfL_append : ∀ {A B : List MF} {X Y : List AV}, A.length = X.length → (wfL (A ++ B) (X ++ Y) ↔ wfL A X ∧ wfL B Y)
 | [], B, [], Y, _ => by
  show _ ↔ (([] : List MF) = [] ∧ _)
  simp
 | f :: A, B, x :: X, Y, h => by
  have ih := wfL_append (A := A) (B := B) (X := X) (Y := Y) (by simpa using h)
  rw [List.cons_append, List.cons_append, wfL_cons, wfL_cons, ih, and_assoc]
mutual
theorem mkF_cnt : ∀ (x : AV) (f : MF) (k : Int), (mkF f k x).2 = k + cntF f x
 | .sc v, f, k => by cases f <;> simp [mkF, cntF]
 | .ro n cells, f, k => by
  cases f <;> first | (simp [mkF, cntF]; done) | exact mkL_cnt cells _ k
 | .agg cs, f, k => by simp [mkF, cntF]
 | .tup cs, f, k => by simp [mkF, cntF]
 | .any, f, k => by simp [mkF, cntF]
 | .nl, f, k => by simp [mkF, cntF]
 | .sl .., f, k => by simp [mkF, cntF]
 | .ptr .., f, k => by simp [mkF, cntF]
 | .rp .., f, k => by simp [mkF, cntF]
 | .fn .., f, k => by simp [mkF, cntF]
theorem mkL_cnt : ∀ (cs : List AV) (fs : List MF) (k : Int), (mkL fs k cs).2 = k + cntL fs cs
 | [], fs, k => by simp [mkL, cntL]
 | c :: cs, fs, k => by
  show (mkL fs.tail (mkF (fs.headD .skip) k c).2 cs).2 = k + ((cntF (fs.headD .skip) c + cntL fs.tail cs : Nat) : Int)
  rw [mkL_cnt cs, mkF_cnt c]
  omega
end
theorem mkL_len : ∀ (cs : List AV) (fs : List MF) (k : Int), (mkL fs k cs).1.length = cs.length
 | [], fs, k => by simp [mkL]
 | c :: cs, fs, k => by
  show (mkL fs.tail _ cs).1.length + 1 = cs.length + 1
  rw [mkL_len cs]
mutual
theorem mkF_nb : ∀ (x : AV) (f : MF) (k : Int), nbT (mkF f k x).1 = nbT x
 | .sc v, f, k => by cases f <;> rfl
 | .ro n cells, f, k => by
  cases f <;> first | rfl | (show 1 + nbL _ = 1 + nbL _; rw [mkL_nb cells])
 | .agg cs, f, k => by simp [mkF]
 | .tup cs, f, k => by simp [mkF]
 | .any, f, k => by simp [mkF]
 | .nl, f, k => by simp [mkF]
 | .sl .., f, k => by simp [mkF]
 | .ptr .., f, k => by simp [mkF]
 | .rp .., f, k => by simp [mkF]
 | .fn .., f, k => by simp [mkF]
theorem mkL_nb : ∀ (cs : List AV) (fs : List MF) (k : Int), nbL (mkL fs k cs).1 = nbL cs
 | [], fs, k => by simp [mkL]
 | c :: cs, fs, k => by
  show nbT (mkF (fs.headD .skip) k c).1 + nbL (mkL fs.tail _ cs).1 = nbT c + nbL cs
  rw [mkF_nb c, mkL_nb cs]
end
mutual
theorem inst_nb {ti : Nat → Option TI} {tp : Nat → Option (List Nat)} : ∀ (x : AV) (N ty : Nat), (instT ti tp N ty x).2.length = nbT x
 | .sc v, N, ty => rfl
 | .ro n cells, N, ty => by
  simp only [instT, List.length_cons, nbT, instL_nb cells, Nat.add_comm]
 | .agg cs, N, ty => instL_nb cs _ _
 | .tup cs, N, ty => instL_nb cs _ _
 | .any, N, ty => rfl
 | .nl, N, ty => rfl
 | .sl .., N, ty => rfl
 | .ptr .., N, ty => rfl
 | .rp .., N, ty => rfl
 | .fn .., N, ty => rfl
theorem instL_nb {ti : Nat → Option TI} {tp : Nat → Option (List Nat)} : ∀ (cs : List AV) (N : Nat) (ts : List Nat), (instL ti tp N ts cs).2.length = nbL cs
 | [], N, ts => rfl
 | c :: cs, N, ts => by
  simp only [instL, List.length_append, nbL, inst_nb c, instL_nb cs]
end
theorem nbL_append : ∀ (X Y : List AV), nbL (X ++ Y) = nbL X + nbL Y
 | [], Y => by simp [nbL]
 | c :: X, Y => by
  show nbT c + nbL (X ++ Y) = nbT c + nbL X + nbL Y
  rw [nbL_append X Y, Nat.add_assoc]
theorem inst_mid {ti : Nat → Option TI} {tp : Nat → Option (List Nat)} (TP TS : List Nat) (t : Nat) (P S : List AV) (c : AV) (N : Nat) (h : TP.length = P.length) :
  instL ti tp N (TP ++ t :: TS) (P ++ c :: S) = ((instL ti tp N TP P).1 ++ (instT ti tp (N + nbL P) t c).1 :: (instL ti tp (N + nbL P + nbT c) TS S).1, (instL ti tp N TP P).2 ++ ((instT ti tp (N + nbL P) t c).2 ++ (instL ti tp (N + nbL P + nbT c) TS S).2)) := by
 rw [instL_append TP P (t :: TS) (c :: S) N h, instL_nb]
 have e : instL ti tp (N + nbL P) (t :: TS) (c :: S) = ((instT ti tp (N + nbL P) t c).1 :: (instL ti tp (N + nbL P + nbT c) TS S).1, (instT ti tp (N + nbL P) t c).2 ++ (instL ti tp (N + nbL P + nbT c) TS S).2) := by
  rw [instL, inst_nb]
  rfl
 rw [e]
end lists
section steps
variable {β : Type} {n : Nat} {r : Option β}
noncomputable def SB (N : Nat) (T : List Nat) (cells : List AV) : List Blk := ⟨(instL ti0 E0.tp (N + 1) T cells).1, true, true⟩ :: (instL ti0 E0.tp (N + 1) T cells).2
theorem inst_SB {ty len : Nat} {cells : List AV} {i j : TI} (h1 : ti0 ty = some i) (h2 : ti0 i.elem = some j) (N : Nat) : instT ti0 E0.tp N ty (.ro len cells) = (.sl N 0 len j.size, SB N (List.replicate len j.cty).flatten cells) := by
 simp only [instT, h1, Option.bind_some, h2, Option.getD_some]
 rfl
theorem sb_store {A C : Heap} {TP TS : List Nat} {t p : Nat} {P S : List AV} {v0 v : Value} (hT : TP.length = P.length) (hv : leafV v = true) (hp : p = P.length) (K : Heap → Option β) :
  pStore 1 (.ptr A.length p) (.sc v) (A ++ (SB A.length (TP ++ t :: TS) (P ++ .sc v0 :: S) ++ C)) K = K (A ++ (SB A.length (TP ++ t :: TS) (P ++ .sc v :: S) ++ C)) := by
 have hc : cellsA (.sc v) = some [.sc v] := by simp only [cellsA, isLeaf, hv, if_true]
 have hl : (instL ti0 E0.tp (A.length + 1) TP P).1.length = P.length := instL_len _ _ _
 simp only [SB, inst_mid TP TS t P S _ _ hT, instT_sc, nbT, List.cons_append]
 rw [st_at 1 A.length p (.sc v) _ _ _ _ (get_at A _ _) hc rfl (by simp [hl, hp]) rfl, set_at]
 have := splice_mid (instL ti0 E0.tp (A.length + 1) TP P).1 [.sc v0] (instL ti0 E0.tp (A.length + 1 + nbL P + 0) TS S).1 [.sc v] rfl
 simp only [List.singleton_append, hl] at this
 rw [hp, this]
theorem sb_load {A C : Heap} {TP TS : List Nat} {t p : Nat} {P S : List AV} {c : AV} (hT : TP.length = P.length) (hp : p = P.length) (K : AV → Option β) :
  pLoad false 1 (.ptr A.length p) (A ++ (SB A.length (TP ++ t :: TS) (P ++ c :: S) ++ C)) K = K (instT ti0 E0.tp (A.length + 1 + nbL P) t c).1 := by
 have hl : (instL ti0 E0.tp (A.length + 1) TP P).1.length = P.length := instL_len _ _ _
 simp only [SB, inst_mid TP TS t P S _ _ hT, List.cons_append]
 refine ldF ?_ K
 have : p + 1 ≤ ((instL ti0 E0.tp (A.length + 1) TP P).1 ++ (instT ti0 E0.tp (A.length + 1 + nbL P) t c).1 :: (instL ti0 E0.tp (A.length + 1 + nbL P + nbT c) TS S).1).length := by simp [hl, hp]
 simp only [rdCells, get_at, if_true, this]
 rw [hp, ← hl, List.drop_append_of_le_length (Nat.le_refl _), List.drop_length]
 rfl
def MarkC (n f ty : Nat) (t t' : AV) (k k' : Int) : Prop := ∀ (β : Type) (A C : Heap) (K : AV → Heap → Option β) (r : Option β),
 (∀ X, K (.sc (.int .i64 k')) (A ++ ((instT ti0 E0.tp A.length ty t').2 ++ (C ++ X))) = r) → evalFn E0 n β f [(instT ti0 E0.tp A.length ty t).1, .sc (.int .i64 k)] (A ++ ((instT ti0 E0.tp A.length ty t).2 ++ C)) K = r
theorem PR_hm {ty : Nat} {f : FuncId} {args : List AV} {H : Heap} {K : AV → Heap → Option β} (hh : E0.hm f = true) (hx : E0.ext f = none) : (PR n β).call ty (.fn f [] []) args H K = evalFn E0 n β f args H K := by
 show callF E0 (evalFn E0 n) ty f ([] ++ args ++ []) H K = _
 simp only [callF, hx, hh, List.nil_append, List.append_nil, if_true]
theorem ms_sub {A C : Heap} {TP TS : List Nat} {t p ty g : Nat} {P S : List AV} {c c' : AV} {k k' : Int} {K : AV → Heap → Option β} (hT : TP.length = P.length) (hp : p = P.length) (hh : E0.hm g = true) (hx : E0.ext g = none) (hmk : MarkC n g t c c' k k') (hs : ∀ M, (instT ti0 E0.tp M t c').1 = (instT ti0 E0.tp M t c).1) (hn : nbT c' = nbT c)
  (h : ∀ X, K (.sc (.int .i64 k')) (A ++ (SB A.length (TP ++ t :: TS) (P ++ c' :: S) ++ (C ++ X))) = r) :
  (pLoad false 1 (.ptr A.length p) (A ++ (SB A.length (TP ++ t :: TS) (P ++ c :: S) ++ C)) fun v => (PR n β).call ty (.fn g [] []) [v, .sc (.int .i64 k)] (A ++ (SB A.length (TP ++ t :: TS) (P ++ c :: S) ++ C)) K) = r := by
 rw [sb_load hT hp, PR_hm hh hx]
 have e : ∀ (d : AV) (D : Heap), A ++ (SB A.length (TP ++ t :: TS) (P ++ d :: S) ++ D) = (A ++ ⟨(instL ti0 E0.tp (A.length + 1) TP P).1 ++ (instT ti0 E0.tp (A.length + 1 + nbL P) t d).1 :: (instL ti0 E0.tp (A.length + 1 + nbL P + nbT d) TS S).1, true, true⟩ :: (instL ti0 E0.tp (A.length + 1) TP P).2) ++ ((instT ti0 E0.tp (A.length + 1 + nbL P) t d).2 ++ ((instL ti0 E0.tp (A.length + 1 + nbL P + nbT d) TS S).2 ++ D)) := by
  intro d D
  simp only [SB, inst_mid TP TS t P S _ _ hT, List.cons_append, List.append_assoc]
 have hN : ∀ b : Blk, (A ++ b :: (instL ti0 E0.tp (A.length + 1) TP P).2).length = A.length + 1 + nbL P := by
  intro b
  rw [List.length_append, List.length_cons, instL_nb]
  omega
 rw [e c C]
 have key := hmk β (A ++ ⟨(instL ti0 E0.tp (A.length + 1) TP P).1 ++ (instT ti0 E0.tp (A.length + 1 + nbL P) t c).1 :: (instL ti0 E0.tp (A.length + 1 + nbL P + nbT c) TS S).1, true, true⟩ :: (instL ti0 E0.tp (A.length + 1) TP P).2) ((instL ti0 E0.tp (A.length + 1 + nbL P + nbT c) TS S).2 ++ C) K r
 rw [hN] at key
 refine key fun X => ?_
 have h2 := h X
 rw [e c' (C ++ X), hs, hn] at h2
 simp only [List.append_assoc, List.cons_append] at h2 ⊢
 exact h2
end steps
structure FD where
 f : MF
 path : List Nat
 g : FuncId
def TxtOk (n tS g : Nat) : Prop := plainF g = false ∧ ∀ k : Int, 0 ≤ k → k ≤ 4611686018427387904 → tree E0 n tS g [.sc (.int .i64 k)] = some (.sc (.string (mTxt k)))
def MarkOk (n g ty : Nat) (fs : List MF) : Prop := E0.hm g = true ∧ E0.ext g = none ∧ (∃ i j, ti0 ty = some i ∧ ti0 i.elem = some j) ∧ ∀ (len : Nat) (cells : List AV) (k : Int), wfF (.sub fs) (.ro len cells) → 0 ≤ k → k + cntF (.sub fs) (.ro len cells) ≤ 4611686018427387904 →
 MarkC n g ty (.ro len cells) (mkF (.sub fs) k (.ro len cells)).1 k (mkF (.sub fs) k (.ro len cells)).2
def HeldOk (n g : Nat) (fs : List MF) : Prop := plainF g = false ∧ ∀ (ty len : Nat) (cells : List AV) (k : Int), wfF (.sub fs) (.ro len cells) → 0 ≤ k → k + cntF (.sub fs) (.ro len cells) ≤ 4611686018427387904 →
 tree E0 n ty g [(mkF (.sub fs) k (.ro len cells)).1, .sc (.int .i64 k)] = some (.sc (.int .i64 (mkF (.sub fs) k (.ro len cells)).2))
def subM (n t g : Nat) : MF → Prop
 | .sub fs => MarkOk n g t fs
 | _ => True
def subH (n g : Nat) : MF → Prop
 | .sub fs => HeldOk n g fs
 | _ => True
def FdsM (n : Nat) : Nat → List FD → List Nat → Prop
 | off, fd :: r, t :: ts => fd.path.sum = off ∧ subM n t fd.g fd.f ∧ FdsM n (off + 1) r ts
 | _, [], [] => True
 | _, _, _ => False
def FdsH (n : Nat) : Nat → List FD → Prop
 | off, fd :: r => fd.path.sum = off ∧ subH n fd.g fd.f ∧ FdsH n (off + 1) r
 | _, [] => True
section fns
variable {β : Type}
def fadrs (p : Pr β) : List Nat → AV → (AV → Option β) → Option β
 | [], x, K => K x
 | o :: r, x, K => p.fadr o x fun t => fadrs p r t K
def bodyM (p : Pr β) (tS tI gT w : Nat) (a i : AV) : List FD → AV → Heap → (AV → Heap → Option β) → Option β
 | [], k, H, K => K k H
 | ⟨.str, path, _⟩ :: r, k, H, K => p.call tS (.fn gT [] []) [k] H fun s H => p.iadr w a i fun t => fadrs p path t fun t => p.store 1 t s H fun H => p.bin .add k (.sc (.int .i64 1)) fun k => bodyM p tS tI gT w a i r k H K
 | ⟨.int, path, _⟩ :: r, k, H, K => p.iadr w a i fun t => fadrs p path t fun t => p.store 1 t k H fun H => p.bin .add k (.sc (.int .i64 1)) fun k => bodyM p tS tI gT w a i r k H K
 | ⟨.bool, path, _⟩ :: r, k, H, K => p.bin .rem k (.sc (.int .i64 3)) fun q => p.bin .eql q (.sc (.int .i64 0)) fun b => p.iadr w a i fun t => fadrs p path t fun t => p.store 1 t b H fun H => p.bin .add k (.sc (.int .i64 1)) fun k => bodyM p tS tI gT w a i r k H K
 | ⟨.byt, path, _⟩ :: r, k, H, K => p.cvI .u8 k fun c => p.iadr w a i fun t => fadrs p path t fun t => p.store 1 t c H fun H => p.bin .add k (.sc (.int .i64 1)) fun k => bodyM p tS tI gT w a i r k H K
 | ⟨.sub _, path, g⟩ :: r, k, H, K => p.iadr w a i fun t => fadrs p path t fun t => p.load false 1 t H fun v => p.call tI (.fn g [] []) [v, k] H fun k H => bodyM p tS tI gT w a i r k H K
 | ⟨.skip, _, _⟩ :: r, k, H, K => bodyM p tS tI gT w a i r k H K
def bodyH (p : Pr β) (tS tI gT w : Nat) (a i : AV) (F : Heap → Option β) : List FD → AV → Heap → (AV → Heap → Option β) → Option β
 | [], k, H, K => K k H
 | ⟨.str, path, _⟩ :: r, k, H, K => p.iadr w a i fun t => fadrs p path t fun t => p.load false 1 t H fun v => p.call tS (.fn gT [] []) [k] H fun s H => p.bin .neq v s fun b => p.cond b (F H) (p.bin .add k (.sc (.int .i64 1)) fun k => bodyH p tS tI gT w a i F r k H K)
 | ⟨.int, path, _⟩ :: r, k, H, K => p.iadr w a i fun t => fadrs p path t fun t => p.load false 1 t H fun v => p.bin .neq v k fun b => p.cond b (F H) (p.bin .add k (.sc (.int .i64 1)) fun k => bodyH p tS tI gT w a i F r k H K)
 | ⟨.bool, path, _⟩ :: r, k, H, K => p.iadr w a i fun t => fadrs p path t fun t => p.load false 1 t H fun v => p.bin .rem k (.sc (.int .i64 3)) fun q => p.bin .eql q (.sc (.int .i64 0)) fun e => p.binB .neq v e fun b => p.cond b (F H) (p.bin .add k (.sc (.int .i64 1)) fun k => bodyH p tS tI gT w a i F r k H K)
 | ⟨.byt, path, _⟩ :: r, k, H, K => p.iadr w a i fun t => fadrs p path t fun t => p.load false 1 t H fun v => p.cvI .u8 k fun c => p.bin .neq v c fun b => p.cond b (F H) (p.bin .add k (.sc (.int .i64 1)) fun k => bodyH p tS tI gT w a i F r k H K)
 | ⟨.sub _, path, g⟩ :: r, k, H, K => p.iadr w a i fun t => fadrs p path t fun t => p.load false 1 t H fun v => p.call tI (.fn g [] []) [v, k] H fun k H => p.bin .lss k (.sc (.int .i64 0)) fun b => p.cond b (F H) (bodyH p tS tI gT w a i F r k H K)
 | ⟨.skip, _, _⟩ :: r, k, H, K => bodyH p tS tI gT w a i F r k H K
variable {n : Nat} {res : Option β}
theorem fadrs_ptr : ∀ (path : List Nat) (id off : Nat) (K : AV → Option β), fadrs (PR n β) path (.ptr id off) K = K (.ptr id (off + path.sum))
 | [], id, off, K => rfl
 | o :: r, id, off, K => by
  show fadrs (PR n β) r (.ptr id (off + o)) K = _
  rw [fadrs_ptr r, List.sum_cons, Nat.add_assoc]
theorem fadrs_rp : ∀ (path : List Nat) (cells : List AV) (K : AV → Option β), fadrs (PR n β) path (.rp cells) K = K (.rp (cells.drop path.sum))
 | [], cells, K => by simp [fadrs]
 | o :: r, cells, K => by
  show fadrs (PR n β) r (.rp (cells.drop o)) K = _
  rw [fadrs_rp r, List.sum_cons, List.drop_drop]
theorem add1 (k : Int) (K : AV → Option β) (h0 : 0 ≤ k) (h1 : k ≤ 4611686018427387904) : pBin .add (.sc (.int .i64 k)) (.sc (.int .i64 1)) K = K (.sc (.int .i64 (k + 1))) := by
 show K (.sc (.int .i64 (IntKind.i64.wrap (k + 1)))) = _
 rw [wrap64 _ (by omega) (by omega)]
theorem rem3 (k : Int) (K : AV → Option β) : (pBin .rem (.sc (.int .i64 k)) (.sc (.int .i64 3)) fun q => pBin .eql q (.sc (.int .i64 0)) K) = K (.sc (.bool (k.tmod 3 == 0))) := rfl
theorem cv8 (k : Int) (K : AV → Option β) : pCvI .u8 (.sc (.int .i64 k)) K = K (.sc (.int .u8 (IntKind.u8.wrap k))) := rfl
theorem call_txt {tS gT : Nat} (h : TxtOk n tS gT) {k : Int} (h0 : 0 ≤ k) (h1 : k ≤ 4611686018427387904) (H : Heap) (K : AV → Heap → Option β) : (PR n β).call tS (.fn gT [] []) [.sc (.int .i64 k)] H K = K (.sc (.string (mTxt k))) H := by
 rw [PR_call (vs := [.sc (.int .i64 k)]) h.1 rfl (h.2 k h0 h1), instT_sc, List.append_nil]
theorem body_m {tS tI gT w len i : Nat} (hT : TxtOk n tS gT) (hi : i < len) : ∀ (todo : List FD) (off : Nat) (Q R S : List AV) (TP tR TS : List Nat) (k : Int) (A C : Heap) (K : AV → Heap → Option β),
  FdsM n off todo tR → TP.length = Q.length → Q.length = i * w + off → wfL (todo.map FD.f) R → 0 ≤ k → k + cntL (todo.map FD.f) R ≤ 4611686018427387904 →
  (∀ X, K (.sc (.int .i64 (mkL (todo.map FD.f) k R).2)) (A ++ (SB A.length (TP ++ (tR ++ TS)) (Q ++ ((mkL (todo.map FD.f) k R).1 ++ S)) ++ (C ++ X))) = res) →
  bodyM (PR n β) tS tI gT w (.sl A.length 0 len w) (.sc (.int .i64 i)) todo (.sc (.int .i64 k)) (A ++ (SB A.length (TP ++ (tR ++ TS)) (Q ++ (R ++ S)) ++ C)) K = res
 | [], off, Q, R, S, TP, tR, TS, k, A, C, K, hf, ht, hq, hw, h0, h1, h => by
  cases R with
  | nil =>
   have := h []
   simp only [List.append_nil] at this
   exact this
  | cons c R => exact absurd rfl hw.1
 | fd :: todo, off, Q, R, S, TP, tR, TS, k, A, C, K, hf, ht, hq, hw, h0, h1, h => by
  cases R with
  | nil => exact absurd (show fd.f :: todo.map FD.f = [] from hw) (by simp)
  | cons c R =>
  cases tR with
  | nil => exact hf.elim
  | cons t tR =>
  obtain ⟨hpath, hsub, hrest⟩ := hf
  obtain ⟨hwc, hwR⟩ := wfL_cons.1 hw
  have hpl : ∀ K' : AV → Option β, (pIadr w (.sl A.length 0 len w) (.sc (.int .i64 i)) fun t => fadrs (PR n β) fd.path t K') = K' (.ptr A.length Q.length) := fun K' => by
   rw [iadr_sl w _ _ _ _ _ hi, fadrs_ptr, hpath, hq, Nat.zero_add]
  have hcnt : cntL ((fd :: todo).map FD.f) (c :: R) = cntF fd.f c + cntL (todo.map FD.f) R := rfl
  have hmk : mkL ((fd :: todo).map FD.f) k (c :: R) = ((mkF fd.f k c).1 :: (mkL (todo.map FD.f) (mkF fd.f k c).2 R).1, (mkL (todo.map FD.f) (mkF fd.f k c).2 R).2) := rfl
  rw [hcnt] at h1
  rw [hmk] at h
  have e1 : ∀ (x : AV) (Y : List AV), Q ++ (x :: Y ++ S) = Q ++ x :: (Y ++ S) := fun x Y => rfl
  have e2 : ∀ (x : AV) (Y : List AV), Q ++ x :: (Y ++ S) = (Q ++ [x]) ++ (Y ++ S) := fun x Y => by simp
  have e3 : TP ++ (t :: tR ++ TS) = (TP ++ [t]) ++ (tR ++ TS) := by simp
  have e4 : TP ++ (t :: tR ++ TS) = TP ++ t :: (tR ++ TS) := rfl
  have go : ∀ (c' : AV) (k' : Int) (C : Heap) (K : AV → Heap → Option β), 0 ≤ k' → k' + cntL (todo.map FD.f) R ≤ 4611686018427387904 →
    (∀ X, K (.sc (.int .i64 (mkL (todo.map FD.f) k' R).2)) (A ++ (SB A.length (TP ++ (t :: tR ++ TS)) (Q ++ (c' :: (mkL (todo.map FD.f) k' R).1 ++ S)) ++ (C ++ X))) = res) →
    bodyM (PR n β) tS tI gT w (.sl A.length 0 len w) (.sc (.int .i64 i)) todo (.sc (.int .i64 k')) (A ++ (SB A.length (TP ++ (t :: tR ++ TS)) (Q ++ c' :: (R ++ S)) ++ C)) K = res := by
   intro c' k' C K h0' h1' h'
   have := body_m (tI := tI) (w := w) hT hi todo (off + 1) (Q ++ [c']) R S (TP ++ [t]) tR TS k' A C K hrest (by simp [ht]) (by simp [hq]; omega) hwR h0' h1' (fun X => by
    have := h' X
    rw [e1, e2, e3] at this
    exact this)
   rw [e3, e2]
   exact this
  obtain ⟨f, path, g⟩ := fd
  cases f with
  | skip =>
   have hc : ∃ v, c = .sc v := by
    cases c <;> first | exact ⟨_, rfl⟩ | exact hwc.elim
   obtain ⟨v, rfl⟩ := hc
   exact go (.sc v) k C K h0 (by simpa [cntF] using h1) h
  | sub fs =>
   have hc : ∃ m cells, c = .ro m cells := by
    cases c with
    | ro m cells => exact ⟨m, cells, rfl⟩
    | sc v => exact hwc.elim
    | _ => exact hwc.elim
   obtain ⟨m, cells, rfl⟩ := hc
   obtain ⟨hh, hx, ⟨j1, j2, hj1, hj2⟩, hmk'⟩ := hsub
   have hk' := mkF_cnt (.ro m cells) (.sub fs) k
   have h1 : k + (cntF (.sub fs) (.ro m cells) + cntL (todo.map FD.f) R : Nat) ≤ 4611686018427387904 := h1
   show (pIadr w (.sl A.length 0 len w) (.sc (.int .i64 i)) fun t => fadrs (PR n β) path t fun t => pLoad false 1 t _ fun v => (PR n β).call tI (.fn g [] []) [v, .sc (.int .i64 k)] _ fun k H => bodyM (PR n β) tS tI gT w _ _ todo k H K) = res
   rw [hpl]
   rw [e4, e1]
   refine ms_sub ht rfl hh hx (hmk' m cells k hwc h0 (by omega)) (fun M => ?_) (mkF_nb _ _ _) fun X => ?_
   ·rw [inst_SB hj1 hj2]
    show (instT ti0 E0.tp M t (.ro m _)).1 = _
    rw [inst_SB hj1 hj2]
   ·refine go _ _ (C ++ X) K (by omega) (by omega) fun Y => ?_
    rw [List.append_assoc]
    exact h (X ++ Y)
  | str =>
   have hc : ∃ s, c = .sc (.string s) := by
    cases c with
    | sc v => cases v <;> first | exact ⟨_, rfl⟩ | exact hwc.elim
    | _ => exact hwc.elim
   obtain ⟨v, rfl⟩ := hc
   have h1 : k + (1 + cntL (todo.map FD.f) R : Nat) ≤ 4611686018427387904 := h1
   show (PR n β).call tS (.fn gT [] []) [.sc (.int .i64 k)] _ (fun s H => pIadr w (.sl A.length 0 len w) (.sc (.int .i64 i)) fun t => fadrs (PR n β) path t fun t => pStore 1 t s H fun H => pBin .add (.sc (.int .i64 k)) (.sc (.int .i64 1)) fun k => bodyM (PR n β) tS tI gT w _ _ todo k H K) = res
   rw [call_txt hT h0 (by omega)]
   simp only [hpl]
   rw [e4, e1, sb_store ht rfl rfl, add1 _ _ h0 (by omega)]
   exact go _ _ C K (by omega) (by omega) h
  | int =>
   have hc : ∃ z, c = .sc (.int .i64 z) := by
    cases c with
    | sc v => cases v with
     | int kd z => cases kd <;> first | exact ⟨_, rfl⟩ | exact hwc.elim
     | _ => exact hwc.elim
    | _ => exact hwc.elim
   obtain ⟨v, rfl⟩ := hc
   have h1 : k + (1 + cntL (todo.map FD.f) R : Nat) ≤ 4611686018427387904 := h1
   show (pIadr w (.sl A.length 0 len w) (.sc (.int .i64 i)) fun t => fadrs (PR n β) path t fun t => pStore 1 t (.sc (.int .i64 k)) _ fun H => pBin .add (.sc (.int .i64 k)) (.sc (.int .i64 1)) fun k => bodyM (PR n β) tS tI gT w _ _ todo k H K) = res
   rw [hpl]
   rw [e4, e1, sb_store ht rfl rfl, add1 _ _ h0 (by omega)]
   exact go _ _ C K (by omega) (by omega) h
  | bool =>
   have hc : ∃ b, c = .sc (.bool b) := by
    cases c with
    | sc v => cases v <;> first | exact ⟨_, rfl⟩ | exact hwc.elim
    | _ => exact hwc.elim
   obtain ⟨v, rfl⟩ := hc
   have h1 : k + (1 + cntL (todo.map FD.f) R : Nat) ≤ 4611686018427387904 := h1
   show (pIadr w (.sl A.length 0 len w) (.sc (.int .i64 i)) fun t => fadrs (PR n β) path t fun t => pStore 1 t (.sc (.bool (k.tmod 3 == 0))) _ fun H => pBin .add (.sc (.int .i64 k)) (.sc (.int .i64 1)) fun k => bodyM (PR n β) tS tI gT w _ _ todo k H K) = res
   rw [hpl]
   rw [e4, e1, sb_store ht rfl rfl, add1 _ _ h0 (by omega)]
   exact go _ _ C K (by omega) (by omega) h
  | byt =>
   have hc : ∃ z, c = .sc (.int .u8 z) := by
    cases c with
    | sc v => cases v with
     | int kd z => cases kd <;> first | exact ⟨_, rfl⟩ | exact hwc.elim
     | _ => exact hwc.elim
    | _ => exact hwc.elim
   obtain ⟨v, rfl⟩ := hc
   have h1 : k + (1 + cntL (todo.map FD.f) R : Nat) ≤ 4611686018427387904 := h1
   show (pIadr w (.sl A.length 0 len w) (.sc (.int .i64 i)) fun t => fadrs (PR n β) path t fun t => pStore 1 t (.sc (.int .u8 (IntKind.u8.wrap k))) _ fun H => pBin .add (.sc (.int .i64 k)) (.sc (.int .i64 1)) fun k => bodyM (PR n β) tS tI gT w _ _ todo k H K) = res
   rw [hpl]
   rw [e4, e1, sb_store ht rfl rfl, add1 _ _ h0 (by omega)]
   exact go _ _ C K (by omega) (by omega) h
end fns
end Go.Proofs.YtejjggnchdldoaaGreatDoor.Abs
set_option linter.unusedVariables false
set_option linter.unusedSimpArgs false
namespace Go.Proofs.YtejjggnchdldoaaGreatDoor.Abs
open Go
variable {β : Type} {n : Nat} {res : Option β}
theorem FdsM_len {n : Nat} : ∀ {off : Nat} {fds : List FD} {ts : List Nat}, FdsM n off fds ts → fds.length = ts.length
 | _, [], [], _ => rfl
 | _, _ :: _, _ :: _, h => by simp [FdsM_len h.2.2]
 | _, [], _ :: _, h => h.elim
 | _, _ :: _, [], h => h.elim
theorem len_sl (id off m w : Nat) (k : AV → Option β) : pLen (.sl id off m w) k = k (.sc (.int .i64 m)) := rfl
theorem loop_m {tS tI gT w len : Nat} {cty : List Nat} {fds : List FD} (hT : TxtOk n tS gT) (hf : FdsM n 0 fds cty) (hw : fds.length = w) (hlen : len ≤ 1048576) (L : Nat → AV → AV → AV → Heap → Option β) (kk : AV → Heap → Option β)
  (hL : ∀ m a k i H, L (m + 1) a k i H = pLen a fun t8 => pBin .lss i t8 fun t9 => pCond t9 (bodyM (PR n β) tS tI gT w a i fds k H fun k' H => pBin .add i (.sc (.int .i64 1)) fun i' => L m a k' i' H) (kk k H)) :
  ∀ (r i m : Nat) (P S : List AV) (TP : List Nat) (k : Int) (A C : Heap), P.length = i * w → TP.length = P.length → i + r = len → r < m → wfL (repF r (fds.map FD.f)) S → 0 ≤ k → k + cntL (repF r (fds.map FD.f)) S ≤ 4611686018427387904 →
   (∀ X, kk (.sc (.int .i64 (mkL (repF r (fds.map FD.f)) k S).2)) (A ++ (SB A.length (TP ++ (List.replicate r cty).flatten) (P ++ (mkL (repF r (fds.map FD.f)) k S).1) ++ (C ++ X))) = res) →
   L m (.sl A.length 0 len w) (.sc (.int .i64 k)) (.sc (.int .i64 i)) (A ++ (SB A.length (TP ++ (List.replicate r cty).flatten) (P ++ S) ++ C)) = res
 | 0, i, m + 1, P, S, TP, k, A, C, hP, hTP, hr, hm, hwf, h0, h1, h => by
  have hS : S = [] := by
   have := wfL_len hwf
   simp [repF] at this
   exact List.eq_nil_of_length_eq_zero this.symm
  subst hS
  obtain rfl : i = len := by omega
  rw [hL]
  rw [len_sl, lss_nat, cond_b, if_neg (by simp)]
  have := h []
  simp only [List.append_nil, mkL] at this ⊢
  exact this
 | r + 1, i, m + 1, P, S, TP, k, A, C, hP, hTP, hr, hm, hwf, h0, h1, h => by
  have hi : i < len := by omega
  have hml : (fds.map FD.f).length = w := by simp [hw]
  have hSl : S.length = (r + 1) * w := by
   have := wfL_len hwf
   rw [repF_len, hml] at this
   exact this.symm
  obtain ⟨R, S', rfl, hRl⟩ : ∃ R S', S = R ++ S' ∧ R.length = w := ⟨S.take w, S.drop w, (List.take_append_drop w S).symm, by rw [List.length_take, hSl, Nat.succ_mul]; omega⟩
  rw [repF_succ] at hwf h1 h
  have hl : (fds.map FD.f).length = R.length := by rw [hml, hRl]
  obtain ⟨hwR, hwS⟩ := (wfL_append hl).1 hwf
  rw [cntL_append _ _ _ _ hl] at h1
  rw [mkL_append _ _ _ _ _ hl] at h
  have hkc := mkL_cnt R (fds.map FD.f) k
  have hRl' := mkL_len R (fds.map FD.f) k
  have hcl : cty.length = w := by rw [← FdsM_len hf, hw]
  rw [List.replicate_succ, List.flatten_cons] at h ⊢
  rw [hL]
  rw [len_sl, lss_nat, cond_b, if_pos (by simpa using hi)]
  refine body_m (w := w) (tI := tI) hT hi fds 0 P R S' TP cty (List.replicate r cty).flatten k A C _ hf hTP (by rw [hP, Nat.add_zero]) hwR h0 (by omega) fun X => ?_
  rw [inc_nat _ _ (by omega)]
  have ih := loop_m hT hf hw hlen L kk hL r (i + 1) m (P ++ (mkL (fds.map FD.f) k R).1) S' (TP ++ cty) (mkL (fds.map FD.f) k R).2 A (C ++ X) (by rw [List.length_append, hP, hRl', hRl, Nat.succ_mul]) (by rw [List.length_append, List.length_append, hTP, hcl, hRl', hRl]) (by omega) (by omega) hwS (by omega) (by omega) (fun Y => by
   have := h (X ++ Y)
   simp only [List.append_assoc] at this ⊢
   exact this)
  simp only [List.append_assoc] at ih ⊢
  exact ih
theorem mark_ok {tS tI gT w f tyS : Nat} {cty : List Nat} {fds : List FD} (hh : E0.hm f = true) (hx : E0.ext f = none) (hT : TxtOk n tS gT) (hf : FdsM n 0 fds cty) (hw : fds.length = w) (hty : ∃ i j, ti0 tyS = some i ∧ ti0 i.elem = some j ∧ j.size = w ∧ j.cty = cty) (hn : 1048576 < n)
  (L : (β : Type) → (AV → Heap → Option β) → Nat → AV → AV → AV → Heap → Option β)
  (hL : ∀ β kk m a k i H, L β kk (m + 1) a k i H = pLen a fun t8 => pBin .lss i t8 fun t9 => pCond t9 (bodyM (PR n β) tS tI gT w a i fds k H fun k' H => pBin .add i (.sc (.int .i64 1)) fun i' => L β kk m a k' i' H) (kk k H))
  (hF : ∀ β a b H kk, evalFn E0 (n + 1) β f [a, b] H kk = L β kk n a b (.sc (.int .i64 0)) H) : MarkOk (n + 1) f tyS (fds.map FD.f) := by
 obtain ⟨ti, tj, h1, h2, h3, h4⟩ := hty
 refine ⟨hh, hx, ⟨ti, tj, h1, h2⟩, fun len cells k hwf h0 hb => ?_⟩
 intro β A C K r h
 obtain ⟨hlen, hcl, hwl⟩ := (show len ≤ 1048576 ∧ cells.length = len * (fds.map FD.f).length ∧ wfL (repF len (fds.map FD.f)) cells from hwf)
 rw [hF, inst_SB h1 h2, h3, h4]
 have hmk : mkF (.sub (fds.map FD.f)) k (.ro len cells) = (.ro len (mkL (repF len (fds.map FD.f)) k cells).1, (mkL (repF len (fds.map FD.f)) k cells).2) := rfl
 rw [hmk] at h
 simp only [inst_SB h1 h2, h3, h4] at h
 exact loop_m (n := n) (cty := cty) hT hf hw hlen (L β K) K (hL β K) len 0 n [] cells [] k A C (by simp) rfl (by omega) (by omega) hwl h0 hb h
theorem body_h {tS tI gT w len i : Nat} {F : Heap → Option β} (hT : TxtOk n tS gT) (hi : i < len) (cells : List AV) (hw0 : i * w < cells.length) : ∀ (todo : List FD) (off : Nat) (Q R S : List AV) (k : Int) (H : Heap) (K : AV → Heap → Option β),
  FdsH n off todo → Q.length = i * w + off → wfL (todo.map FD.f) R → 0 ≤ k → k + cntL (todo.map FD.f) R ≤ 4611686018427387904 → cells = Q ++ ((mkL (todo.map FD.f) k R).1 ++ S) →
  (∀ X, K (.sc (.int .i64 (mkL (todo.map FD.f) k R).2)) (H ++ X) = res) →
  bodyH (PR n β) tS tI gT w (.ro len cells) (.sc (.int .i64 i)) F todo (.sc (.int .i64 k)) H K = res
 | [], off, Q, R, S, k, H, K, hf, hq, hw, h0, h1, hc, h => by
  cases R with
  | nil =>
   have := h []
   rw [List.append_nil] at this
   exact this
  | cons c R => exact absurd rfl hw.1
 | fd :: todo, off, Q, R, S, k, H, K, hf, hq, hw, h0, h1, hc, h => by
  cases R with
  | nil => exact absurd (show fd.f :: todo.map FD.f = [] from hw) (by simp)
  | cons c R =>
  obtain ⟨hpath, hsub, hrest⟩ := hf
  obtain ⟨hwc, hwR⟩ := wfL_cons.1 hw
  have hmk : mkL ((fd :: todo).map FD.f) k (c :: R) = ((mkF fd.f k c).1 :: (mkL (todo.map FD.f) (mkF fd.f k c).2 R).1, (mkL (todo.map FD.f) (mkF fd.f k c).2 R).2) := rfl
  rw [hmk] at h hc
  have hcells : cells = Q ++ (mkF fd.f k c).1 :: ((mkL (todo.map FD.f) (mkF fd.f k c).2 R).1 ++ S) := hc
  have hpl : ∀ K' : AV → Option β, (pIadr w (.ro len cells) (.sc (.int .i64 i)) fun t => fadrs (PR n β) fd.path t fun t => pLoad false 1 t H K') = K' (mkF fd.f k c).1 := fun K' => by
   rw [iadr_ro w _ _ i _ hi hw0, fadrs_rp, hpath, List.drop_drop, ← hq]
   conv => lhs; rw [hcells]
   rw [List.drop_append_of_le_length (Nat.le_refl _), List.drop_length, List.nil_append, ld1_rp]
  have go : ∀ (H' : Heap), (∀ X, K (.sc (.int .i64 (mkL (todo.map FD.f) (mkF fd.f k c).2 R).2)) (H' ++ X) = res) → 0 ≤ (mkF fd.f k c).2 → (mkF fd.f k c).2 + cntL (todo.map FD.f) R ≤ 4611686018427387904 →
    bodyH (PR n β) tS tI gT w (.ro len cells) (.sc (.int .i64 i)) F todo (.sc (.int .i64 (mkF fd.f k c).2)) H' K = res := by
   intro H' h' g0 g1
   exact body_h hT hi cells hw0 todo (off + 1) (Q ++ [(mkF fd.f k c).1]) R S (mkF fd.f k c).2 H' K hrest (by simp [hq]; omega) hwR g0 g1 (by rw [hcells]; simp) h'
  have hcnt := mkF_cnt c fd.f k
  have h1 : k + (cntF fd.f c + cntL (todo.map FD.f) R : Nat) ≤ 4611686018427387904 := h1
  obtain ⟨f, path, g⟩ := fd
  simp only at hcnt h1 hpl go h
  cases f with
  | skip =>
   have hc : ∃ v, c = .sc v := by
    cases c <;> first | exact ⟨_, rfl⟩ | exact hwc.elim
   obtain ⟨v, rfl⟩ := hc
   exact go H h h0 (by simpa [cntF, mkF] using h1)
  | sub fs =>
   have hc : ∃ m cells, c = .ro m cells := by
    cases c with
    | ro m cells => exact ⟨m, cells, rfl⟩
    | sc v => exact hwc.elim
    | _ => exact hwc.elim
   obtain ⟨m, cs, rfl⟩ := hc
   obtain ⟨hh, hhe⟩ := hsub
   show (pIadr w (.ro len cells) (.sc (.int .i64 i)) fun t => fadrs (PR n β) path t fun t => pLoad false 1 t H fun v => (PR n β).call tI (.fn g [] []) [v, .sc (.int .i64 k)] H fun k H => pBin .lss k (.sc (.int .i64 0)) fun b => pCond b (F H) (bodyH (PR n β) tS tI gT w _ _ F todo k H K)) = res
   rw [hpl, PR_call (vs := [(mkF (.sub fs) k (.ro m cs)).1, .sc (.int .i64 k)]) hh rfl (hhe tI m cs k hwc h0 (by omega)), instT_sc, List.append_nil]
   simp only
   rw [lss64, cond_b, if_neg (by simp; omega)]
   exact go H h (by omega) (by omega)
  | str =>
   have hc : ∃ s, c = .sc (.string s) := by
    cases c with
    | sc v => cases v <;> first | exact ⟨_, rfl⟩ | exact hwc.elim
    | _ => exact hwc.elim
   obtain ⟨v, rfl⟩ := hc
   have h1 : k + (1 + cntL (todo.map FD.f) R : Nat) ≤ 4611686018427387904 := h1
   have hpl' : ∀ K' : AV → Option β, (pIadr w (.ro len cells) (.sc (.int .i64 i)) fun t => fadrs (PR n β) path t fun t => pLoad false 1 t H K') = K' (.sc (.string (mTxt k))) := hpl
   show (pIadr w (.ro len cells) (.sc (.int .i64 i)) fun t => fadrs (PR n β) path t fun t => pLoad false 1 t H fun v => (PR n β).call tS (.fn gT [] []) [.sc (.int .i64 k)] H fun s H => pBin .neq v s fun b => pCond b (F H) (pBin .add (.sc (.int .i64 k)) (.sc (.int .i64 1)) fun k => bodyH (PR n β) tS tI gT w _ _ F todo k H K)) = res
   rw [hpl', call_txt hT h0 (by omega), neqS]
   simp only [beq_self_eq_true, Bool.not_true]
   rw [cond_b, if_neg (by simp), add1 _ _ h0 (by omega)]
   exact go H h (by show 0 ≤ k + 1; omega) (by show k + 1 + _ ≤ _; omega)
  | int =>
   have hc : ∃ z, c = .sc (.int .i64 z) := by
    cases c with
    | sc v => cases v with
     | int kd z => cases kd <;> first | exact ⟨_, rfl⟩ | exact hwc.elim
     | _ => exact hwc.elim
    | _ => exact hwc.elim
   obtain ⟨v, rfl⟩ := hc
   have h1 : k + (1 + cntL (todo.map FD.f) R : Nat) ≤ 4611686018427387904 := h1
   have hpl' : ∀ K' : AV → Option β, (pIadr w (.ro len cells) (.sc (.int .i64 i)) fun t => fadrs (PR n β) path t fun t => pLoad false 1 t H K') = K' (.sc (.int .i64 k)) := hpl
   show (pIadr w (.ro len cells) (.sc (.int .i64 i)) fun t => fadrs (PR n β) path t fun t => pLoad false 1 t H fun v => pBin .neq v (.sc (.int .i64 k)) fun b => pCond b (F H) (pBin .add (.sc (.int .i64 k)) (.sc (.int .i64 1)) fun k => bodyH (PR n β) tS tI gT w _ _ F todo k H K)) = res
   rw [hpl', neq64]
   simp only [bne_self_eq_false]
   rw [cond_b, if_neg (by simp), add1 _ _ h0 (by omega)]
   exact go H h (by show 0 ≤ k + 1; omega) (by show k + 1 + _ ≤ _; omega)
  | bool =>
   have hc : ∃ b, c = .sc (.bool b) := by
    cases c with
    | sc v => cases v <;> first | exact ⟨_, rfl⟩ | exact hwc.elim
    | _ => exact hwc.elim
   obtain ⟨v, rfl⟩ := hc
   have h1 : k + (1 + cntL (todo.map FD.f) R : Nat) ≤ 4611686018427387904 := h1
   have hpl' : ∀ K' : AV → Option β, (pIadr w (.ro len cells) (.sc (.int .i64 i)) fun t => fadrs (PR n β) path t fun t => pLoad false 1 t H K') = K' (.sc (.bool (k.tmod 3 == 0))) := hpl
   show (pIadr w (.ro len cells) (.sc (.int .i64 i)) fun t => fadrs (PR n β) path t fun t => pLoad false 1 t H fun v => pBinB .neq v (.sc (.bool (k.tmod 3 == 0))) fun b => pCond b (F H) (pBin .add (.sc (.int .i64 k)) (.sc (.int .i64 1)) fun k => bodyH (PR n β) tS tI gT w _ _ F todo k H K)) = res
   rw [hpl', neqB]
   simp only [beq_self_eq_true, Bool.not_true]
   rw [cond_b, if_neg (by simp), add1 _ _ h0 (by omega)]
   exact go H h (by show 0 ≤ k + 1; omega) (by show k + 1 + _ ≤ _; omega)
  | byt =>
   have hc : ∃ z, c = .sc (.int .u8 z) := by
    cases c with
    | sc v => cases v with
     | int kd z => cases kd <;> first | exact ⟨_, rfl⟩ | exact hwc.elim
     | _ => exact hwc.elim
    | _ => exact hwc.elim
   obtain ⟨v, rfl⟩ := hc
   have h1 : k + (1 + cntL (todo.map FD.f) R : Nat) ≤ 4611686018427387904 := h1
   have hpl' : ∀ K' : AV → Option β, (pIadr w (.ro len cells) (.sc (.int .i64 i)) fun t => fadrs (PR n β) path t fun t => pLoad false 1 t H K') = K' (.sc (.int .u8 (IntKind.u8.wrap k))) := hpl
   show (pIadr w (.ro len cells) (.sc (.int .i64 i)) fun t => fadrs (PR n β) path t fun t => pLoad false 1 t H fun v => pBin .neq v (.sc (.int .u8 (IntKind.u8.wrap k))) fun b => pCond b (F H) (pBin .add (.sc (.int .i64 k)) (.sc (.int .i64 1)) fun k => bodyH (PR n β) tS tI gT w _ _ F todo k H K)) = res
   rw [hpl']
   show pCond (.sc (.bool (IntKind.u8.wrap k != IntKind.u8.wrap k))) _ _ = res
   simp only [bne_self_eq_false]
   rw [cond_b, if_neg (by simp), add1 _ _ h0 (by omega)]
   exact go H h (by show 0 ≤ k + 1; omega) (by show k + 1 + _ ≤ _; omega)
theorem loop_h {tS tI gT w len : Nat} {fds : List FD} (hT : TxtOk n tS gT) (hf : FdsH n 0 fds) (hw : fds.length = w) (hw0 : 0 < w) (hlen : len ≤ 1048576) (cells : List AV) (L : Nat → AV → AV → AV → Heap → Option β) (kk : AV → Heap → Option β)
  (hL : ∀ m a k i H, L (m + 1) a k i H = pLen a fun t8 => pBin .lss i t8 fun t9 => pCond t9 (bodyH (PR n β) tS tI gT w a i (fun H => kk (.sc (.int .i64 (-1))) H) fds k H fun k' H => pBin .add i (.sc (.int .i64 1)) fun i' => L m a k' i' H) (kk k H)) :
  ∀ (r i m : Nat) (P S : List AV) (k : Int) (H : Heap), P.length = i * w → i + r = len → r < m → wfL (repF r (fds.map FD.f)) S → 0 ≤ k → k + cntL (repF r (fds.map FD.f)) S ≤ 4611686018427387904 → cells = P ++ (mkL (repF r (fds.map FD.f)) k S).1 →
   (∀ X, kk (.sc (.int .i64 (mkL (repF r (fds.map FD.f)) k S).2)) (H ++ X) = res) →
   L m (.ro len cells) (.sc (.int .i64 k)) (.sc (.int .i64 i)) H = res
 | 0, i, m + 1, P, S, k, H, hP, hr, hm, hwf, h0, h1, hc, h => by
  have hS : S = [] := by
   have := wfL_len hwf
   simp [repF] at this
   exact List.eq_nil_of_length_eq_zero this.symm
  subst hS
  obtain rfl : i = len := by omega
  rw [hL, len_ro, lss_nat, cond_b, if_neg (by simp)]
  have := h []
  simp only [List.append_nil, mkL] at this ⊢
  exact this
 | r + 1, i, m + 1, P, S, k, H, hP, hr, hm, hwf, h0, h1, hc, h => by
  have hi : i < len := by omega
  have hml : (fds.map FD.f).length = w := by simp [hw]
  have hSl : S.length = (r + 1) * w := by
   have := wfL_len hwf
   rw [repF_len, hml] at this
   exact this.symm
  obtain ⟨R, S', rfl, hRl⟩ : ∃ R S', S = R ++ S' ∧ R.length = w := ⟨S.take w, S.drop w, (List.take_append_drop w S).symm, by rw [List.length_take, hSl, Nat.succ_mul]; omega⟩
  rw [repF_succ] at hwf h1 h hc
  have hl : (fds.map FD.f).length = R.length := by rw [hml, hRl]
  obtain ⟨hwR, hwS⟩ := (wfL_append hl).1 hwf
  rw [cntL_append _ _ _ _ hl] at h1
  rw [mkL_append _ _ _ _ _ hl] at h hc
  have hkc := mkL_cnt R (fds.map FD.f) k
  have hRl' := mkL_len R (fds.map FD.f) k
  have hcl : i * w < cells.length := by
   rw [hc, List.length_append, List.length_append, hRl', hRl, hP]
   omega
  rw [hL, len_ro, lss_nat, cond_b, if_pos (by simpa using hi)]
  refine body_h (w := w) (tI := tI) hT hi cells hcl fds 0 P R (mkL (repF r (fds.map FD.f)) (mkL (fds.map FD.f) k R).2 S').1 k H _ hf (by rw [hP, Nat.add_zero]) hwR h0 (by omega) hc fun X => ?_
  rw [inc_nat _ _ (by omega)]
  exact loop_h hT hf hw hw0 hlen cells L kk hL r (i + 1) m (P ++ (mkL (fds.map FD.f) k R).1) S' (mkL (fds.map FD.f) k R).2 (H ++ X) (by rw [List.length_append, hP, hRl', hRl, Nat.succ_mul]) (by omega) (by omega) hwS (by omega) (by omega) (by rw [hc, List.append_assoc]) (fun Y => by
   have := h (X ++ Y)
   rw [List.append_assoc]
   exact this)
theorem held_ok {tS tI gT w f : Nat} {fds : List FD} (hh : plainF f = false) (hT : TxtOk n tS gT) (hf : FdsH n 0 fds) (hw : fds.length = w) (hw0 : 0 < w) (hn : 1048576 < n)
  (L : (AV → Heap → Option AV) → Nat → AV → AV → AV → Heap → Option AV)
  (hL : ∀ kk m a k i H, L kk (m + 1) a k i H = pLen a fun t8 => pBin .lss i t8 fun t9 => pCond t9 (bodyH (PR n AV) tS tI gT w a i (fun H => kk (.sc (.int .i64 (-1))) H) fds k H fun k' H => pBin .add i (.sc (.int .i64 1)) fun i' => L kk m a k' i' H) (kk k H))
  (hF : ∀ a b H kk, evalFn E0 (n + 1) AV f [a, b] H kk = L kk n a b (.sc (.int .i64 0)) H) : HeldOk (n + 1) f (fds.map FD.f) := by
 refine ⟨hh, fun ty len cells k hwf h0 hb => ?_⟩
 obtain ⟨hlen, hcl, hwl⟩ := (show len ≤ 1048576 ∧ cells.length = len * (fds.map FD.f).length ∧ wfL (repF len (fds.map FD.f)) cells from hwf)
 rw [tree_def, hF]
 exact loop_h (n := n) hT hf hw hw0 hlen (mkL (repF len (fds.map FD.f)) k cells).1 (L fun x H => ownTree ti0 E0.tp ty H x) (fun x H => ownTree ti0 E0.tp ty H x) (hL _) len 0 n [] cells k [] (by simp) (by omega) (by omega) hwl h0 hb rfl (fun X => rfl)
end Go.Proofs.YtejjggnchdldoaaGreatDoor.Abs
set_option linter.unusedVariables false
set_option linter.unusedSimpArgs false
namespace Go.Proofs.YtejjggnchdldoaaGreatDoor.Abs
open Go
section txt
theorem txt_fill (v : AV) (h : cellsA v = some [v]) : fillA [(.sc (.int .u8 0))] [(0, 1, v)] = some [v] := by
 simp [fillA, h, splice]
theorem txt_bytes (H : Heap) (b : UInt8) : content (H ++ [⟨[.sc (.int .u8 b.toNat)], true, true⟩]) 1 (.sl H.length 0 1 1) = some [.sc (.int .u8 b.toNat)] := by
 simp only [content, if_true, rdCells, get_at H _ []]
 rfl
theorem digs_pos {k : Nat} (h : ¬ k = 0) (out : ByteArray) : digs k out = digs (k / 10) (⟨#[UInt8.ofNat (48 + k % 10)]⟩ ++ out) := by
 rw [digs, dif_neg h]
theorem txt_loop {n ty : Nat} (L : Nat → AV → AV → Heap → Option AV)
  (hL : ∀ m k s H, L (m + 1) k s H = pBin .gtr k (.sc (.int .i64 0)) fun t7 => pCond t7 (pBin .rem k (.sc (.int .i64 10)) fun t9 => pBin .add (.sc (.int .i64 48)) t9 fun t10 => pCvI .u8 t10 fun t11 =>
   (fillA [(.sc (.int .u8 0))] [(0, 1, t11)]).bind fun ct12 => pNewSl 1 1 ct12 true H fun t12 H => pCvBS t12 H fun t13 => pBin .add t13 s fun t15 => pBin .quo k (.sc (.int .i64 10)) fun t17 => L m t17 t15 H)
   (pBin .add (.sc (.string ⟨#[109]⟩)) s fun t19 => ownTree ti0 E0.tp ty H t19)) :
  ∀ (b m k : Nat) (out : ByteArray) (H : Heap), k ≤ 4611686018427387904 → k < 10 ^ b → b < m → out.size + b ≤ 1000 → L m (.sc (.int .i64 k)) (.sc (.string out)) H = some (.sc (.string (⟨#[109]⟩ ++ digs k out)))
 | b, 0, k, out, H, hk0, h1, h2, h3 => by omega
 | b, m + 1, k, out, H, hk0, h1, h2, h3 => by
  rw [hL, gtr64, cond_b]
  by_cases hk : k = 0
  ·subst hk
   rw [if_neg (by simp)]
   have hs : (⟨#[109]⟩ : ByteArray).size + out.size ≤ 9223372036854775807 := by
    show 1 + out.size ≤ _
    omega
   show (binS .add ⟨#[109]⟩ out).bind _ = _
   simp only [binS, if_pos hs, Option.bind_some]
   rw [digs, dif_pos rfl]
   rfl
  ·rw [if_pos (by simp; omega)]
   have e9 : ∀ K : AV → Option AV, pBin .rem (.sc (.int .i64 (k : Int))) (.sc (.int .i64 10)) K = K (.sc (.int .i64 ((k % 10 : Nat) : Int))) := by
    intro K
    show K (.sc (.int .i64 ((k : Int).tmod 10))) = _
    rw [show ((k : Int).tmod 10) = ((k % 10 : Nat) : Int) from by
     rw [Int.tmod_eq_emod_of_nonneg (by omega)]; simp]
   have e10 : ∀ K : AV → Option AV, pBin .add (.sc (.int .i64 48)) (.sc (.int .i64 ((k % 10 : Nat) : Int))) K = K (.sc (.int .i64 ((48 + k % 10 : Nat) : Int))) := by
    intro K
    show K (.sc (.int .i64 (IntKind.i64.wrap (48 + ((k % 10 : Nat) : Int))))) = _
    rw [wrap64 _ (by omega) (by omega)]
    rfl
   have e11 : ∀ K : AV → Option AV, pCvI .u8 (.sc (.int .i64 ((48 + k % 10 : Nat) : Int))) K = K (.sc (.int .u8 ((UInt8.ofNat (48 + k % 10)).toNat : Int))) := by
    intro K
    show K (.sc (.int .u8 (IntKind.u8.wrap ((48 + k % 10 : Nat) : Int)))) = _
    have : (UInt8.ofNat (48 + k % 10)).toNat = 48 + k % 10 := by
     rw [UInt8.toNat_ofNat']
     omega
    rw [this]
    have hw : IntKind.u8.wrap ((48 + k % 10 : Nat) : Int) = ((48 + k % 10 : Nat) : Int) := by
     have h10 : k % 10 < 10 := Nat.mod_lt _ (by decide)
     unfold IntKind.wrap
     simp [IntKind.bits, IntKind.signed]
     omega
    rw [hw]
   have e17 : ∀ K : AV → Option AV, pBin .quo (.sc (.int .i64 (k : Int))) (.sc (.int .i64 10)) K = K (.sc (.int .i64 ((k / 10 : Nat) : Int))) := by
    intro K
    show K (.sc (.int .i64 (IntKind.i64.wrap ((k : Int).tdiv 10)))) = _
    rw [Int.tdiv_eq_ediv_of_nonneg (by omega), wrap64 _ (by omega) (by omega)]
    rfl
   rw [e9, e10, e11, txt_fill _ rfl]
   have hb : ((UInt8.ofNat (48 + k % 10)).toNat : Int).toNat = (UInt8.ofNat (48 + k % 10)).toNat := Int.toNat_natCast _
   have hbb : ([.sc (.int .u8 ((UInt8.ofNat (48 + k % 10)).toNat : Int))] : List AV).mapM byteOf = some [UInt8.ofNat (48 + k % 10)] := byteOf_bytes [UInt8.ofNat (48 + k % 10)]
   simp only [Option.bind_some, pNewSl, pCvBS, txt_bytes, hbb]
   have hs : (⟨#[UInt8.ofNat (48 + k % 10)]⟩ : ByteArray).size + out.size ≤ 9223372036854775807 := by
    show 1 + out.size ≤ _
    omega
   have e15 : ∀ K : AV → Option AV, pBin .add (.sc (.string ⟨[UInt8.ofNat (48 + k % 10)].toArray⟩)) (.sc (.string out)) K = K (.sc (.string (⟨#[UInt8.ofNat (48 + k % 10)]⟩ ++ out))) := by
    intro K
    show (binS .add ⟨#[UInt8.ofNat (48 + k % 10)]⟩ out).bind _ = _
    simp only [binS, if_pos hs, Option.bind_some]
   rw [e15, e17]
   cases b with
   | zero => simp at h1; omega
   | succ b =>
    have hk10 : k / 10 < 10 ^ b := by
     rw [Nat.pow_succ] at h1
     omega
    have hsz : (⟨#[UInt8.ofNat (48 + k % 10)]⟩ ++ out : ByteArray).size = 1 + out.size := by
     rw [ByteArray.size_append]
     rfl
    rw [txt_loop (n := n) (ty := ty) L hL b m (k / 10) _ _ (by omega) hk10 (by omega) (by rw [hsz]; omega)]
    rw [digs_pos hk out]
end txt
theorem txt_ok {n tS f : Nat} (hh : plainF f = false) (hn : 1048576 < n) (L : (AV → Heap → Option AV) → Nat → AV → AV → Heap → Option AV)
  (hL : ∀ kk m k s H, L kk (m + 1) k s H = pBin .gtr k (.sc (.int .i64 0)) fun t7 => pCond t7 (pBin .rem k (.sc (.int .i64 10)) fun t9 => pBin .add (.sc (.int .i64 48)) t9 fun t10 => pCvI .u8 t10 fun t11 =>
   (fillA [(.sc (.int .u8 0))] [(0, 1, t11)]).bind fun ct12 => pNewSl 1 1 ct12 true H fun t12 H => pCvBS t12 H fun t13 => pBin .add t13 s fun t15 => pBin .quo k (.sc (.int .i64 10)) fun t17 => L kk m t17 t15 H)
   (pBin .add (.sc (.string ⟨#[109]⟩)) s fun t19 => kk t19 H))
  (hF : ∀ a H kk, evalFn E0 (n + 1) AV f [a] H kk = pBin .leq a (.sc (.int .i64 0)) fun t5 => pCond t5 (kk (.sc (.string ⟨#[109, 48]⟩)) H) (L kk n a (.sc (.string ⟨#[]⟩)) H)) : TxtOk (n + 1) tS f := by
 refine ⟨hh, fun k h0 h1 => ?_⟩
 rw [tree_def, hF, leq64, cond_b]
 by_cases hk : k ≤ 0
 ·rw [if_pos (by simpa using hk), own_v, mTxt, if_pos hk]
  rfl
 ·rw [if_neg (by simpa using hk)]
  obtain ⟨m, rfl⟩ : ∃ m : Nat, k = m := ⟨k.toNat, by omega⟩
  have := txt_loop (n := n) (ty := tS) (L fun x H => ownTree ti0 E0.tp tS H x) (hL _) 19 n m ⟨#[]⟩ [] (by omega) (by omega) (by omega) (by decide)
  rw [this, mTxt, if_neg hk]
  rfl
inductive FV where
 | skip
 | sub (fs : List MF) (path : List Nat) (g : FuncId)
 | agg (l : List MF) (path : List Nat) (w : Nat) (g : FuncId)
def flatV : List FV → List MF
 | [] => []
 | .skip :: r => .skip :: flatV r
 | .sub fs _ _ :: r => .sub fs :: flatV r
 | .agg l _ _ _ :: r => l ++ flatV r
def MarkV (n g : Nat) (cty : List Nat) (fs : List MF) : Prop := E0.hm g = true ∧ E0.ext g = none ∧ ∀ (cs : List AV) (k : Int) (β : Type) (A C : Heap) (K : AV → Heap → Option β) (r : Option β), wfL fs cs → 0 ≤ k → k + cntL fs cs ≤ 4611686018427387904 →
 (∀ X, K (.sc (.int .i64 (mkL fs k cs).2)) (A ++ ((instL ti0 E0.tp A.length cty (mkL fs k cs).1).2 ++ (C ++ X))) = r) → evalFn E0 n β g [.agg (instL ti0 E0.tp A.length cty cs).1, .sc (.int .i64 k)] (A ++ ((instL ti0 E0.tp A.length cty cs).2 ++ C)) K = r
def HeldV (n g : Nat) (fs : List MF) : Prop := plainF g = false ∧ ∀ (ty : Nat) (cs : List AV) (k : Int), wfL fs cs → 0 ≤ k → k + cntL fs cs ≤ 4611686018427387904 → tree E0 n ty g [.agg (mkL fs k cs).1, .sc (.int .i64 k)] = some (.sc (.int .i64 (mkL fs k cs).2))
def isV : MF → Bool
 | .skip => true
 | .sub _ => true
 | _ => false
def FvM (n : Nat) : Nat → List FV → List Nat → Prop
 | _, [], [] => True
 | off, .skip :: r, _ :: ts => FvM n (off + 1) r ts
 | off, .sub fs path g :: r, t :: ts => path.sum = off ∧ MarkOk n g t fs ∧ FvM n (off + 1) r ts
 | off, .agg l path w g :: r, ts => path.sum = off ∧ l.length = w ∧ 0 < w ∧ l.all isV = true ∧ MarkV n g (ts.take w) l ∧ w ≤ ts.length ∧ FvM n (off + w) r (ts.drop w)
 | _, _, _ => False
def FvH (n : Nat) : Nat → List FV → Prop
 | _, [] => True
 | off, .skip :: r => FvH n (off + 1) r
 | off, .sub fs path g :: r => path.sum = off ∧ HeldOk n g fs ∧ FvH n (off + 1) r
 | off, .agg l path w g :: r => path.sum = off ∧ l.length = w ∧ 0 < w ∧ HeldV n g l ∧ FvH n (off + w) r
section fns
variable {β : Type}
def bodyV (p : Pr β) (tI : Nat) (x : AV) : List FV → AV → Heap → (AV → Heap → Option β) → Option β
 | [], k, H, K => K k H
 | .skip :: r, k, H, K => bodyV p tI x r k H K
 | .sub _ path g :: r, k, H, K => fadrs p path x fun t => p.load false 1 t H fun v => p.call tI (.fn g [] []) [v, k] H fun k H => bodyV p tI x r k H K
 | .agg _ path w g :: r, k, H, K => fadrs p path x fun t => p.load true w t H fun v => p.call tI (.fn g [] []) [v, k] H fun k H => bodyV p tI x r k H K
def bodyHV (p : Pr β) (tI : Nat) (x : AV) (F : Heap → Option β) : List FV → AV → Heap → (AV → Heap → Option β) → Option β
 | [], k, H, K => K k H
 | .skip :: r, k, H, K => bodyHV p tI x F r k H K
 | .sub _ path g :: r, k, H, K => fadrs p path x fun t => p.load false 1 t H fun v => p.call tI (.fn g [] []) [v, k] H fun k H => p.bin .lss k (.sc (.int .i64 0)) fun b => p.cond b (F H) (bodyHV p tI x F r k H K)
 | .agg _ path w g :: r, k, H, K => fadrs p path x fun t => p.load true w t H fun v => p.call tI (.fn g [] []) [v, k] H fun k H => p.bin .lss k (.sc (.int .i64 0)) fun b => p.cond b (F H) (bodyHV p tI x F r k H K)
variable {n : Nat} {res : Option β}
theorem mk_ro_same {t g : Nat} {n : Nat} {fs : List MF} (h : MarkOk n g t fs) (k : Int) (m : Nat) (cells : List AV) (M : Nat) : (instT ti0 E0.tp M t (mkF (.sub fs) k (.ro m cells)).1).1 = (instT ti0 E0.tp M t (.ro m cells)).1 := by
 obtain ⟨_, _, ⟨j1, j2, hj1, hj2⟩, _⟩ := h
 rw [inst_SB hj1 hj2]
 show (instT ti0 E0.tp M t (.ro m _)).1 = _
 rw [inst_SB hj1 hj2]
theorem mkL_same {ti : Nat → Option TI} {tp : Nat → Option (List Nat)} : ∀ (cs : List AV) (fs : List MF) (k : Int) (N : Nat) (ts : List Nat), fs.all isV = true → wfL fs cs → (instL ti tp N ts (mkL fs k cs).1).1 = (instL ti tp N ts cs).1
 | [], fs, k, N, ts, _, _ => by simp [mkL]
 | c :: cs, [], k, N, ts, _, hw => absurd rfl hw.1
 | c :: cs, f :: fs, k, N, ts, hv, hw => by
  obtain ⟨h1, h2⟩ := wfL_cons.1 hw
  rw [List.all_cons, Bool.and_eq_true] at hv
  have ih := mkL_same (ti := ti) (tp := tp) cs fs (mkF f k c).2 (N + nbT c) ts.tail hv.2 h2
  have hn := mkF_nb c f k
  have e : (instT ti tp N (ts.headD 0) (mkF f k c).1).1 = (instT ti tp N (ts.headD 0) c).1 := by
   cases c with
   | sc v => cases f <;> first | rfl | (exfalso; simpa [isV] using hv.1)
   | ro m cells => cases f <;> first | rfl | exact h1.elim
   | _ => exact h1.elim
  show (instT ti tp N (ts.headD 0) (mkF f k c).1).1 :: (instL ti tp (N + (instT ti tp N (ts.headD 0) (mkF f k c).1).2.length) ts.tail (mkL fs (mkF f k c).2 cs).1).1 = _ :: (instL ti tp (N + (instT ti tp N (ts.headD 0) c).2.length) ts.tail cs).1
  rw [inst_nb, inst_nb, e, hn, ih]
theorem body_v {tI idx : Nat} {ys : List AV} : ∀ (todo : List FV) (off : Nat) (Q R : List AV) (TP tR : List Nat) (k : Int) (A D : Heap) (K : AV → Heap → Option β),
  FvM n off todo tR → TP.length = Q.length → Q.length = off → wfL (flatV todo) R → 0 ≤ k → k + cntL (flatV todo) R ≤ 4611686018427387904 →
  (instL ti0 E0.tp A.length (TP ++ tR) (Q ++ R)).1 = ys → D[idx]? = some ⟨ys, true, true⟩ →
  (∀ X, K (.sc (.int .i64 (mkL (flatV todo) k R).2)) (A ++ ((instL ti0 E0.tp A.length (TP ++ tR) (Q ++ (mkL (flatV todo) k R).1)).2 ++ (D ++ X))) = res) →
  bodyV (PR n β) tI (.ptr (A.length + nbL (Q ++ R) + idx) 0) todo (.sc (.int .i64 k)) (A ++ ((instL ti0 E0.tp A.length (TP ++ tR) (Q ++ R)).2 ++ D)) K = res
 | [], off, Q, R, TP, tR, k, A, D, K, hf, hT, hq, hw, h0, h1, hy, hD, h => by
  cases R with
  | nil =>
   have := h []
   rw [List.append_nil D] at this
   exact this
  | cons c R => exact absurd rfl hw.1
 | .skip :: todo, off, Q, R, TP, tR, k, A, D, K, hf, hT, hq, hw, h0, h1, hy, hD, h => by
  cases R with
  | nil => exact absurd (show MF.skip :: flatV todo = [] from hw) (by simp)
  | cons c R =>
  cases tR with
  | nil => exact hf.elim
  | cons t tR =>
  obtain ⟨hwc, hwR⟩ := wfL_cons.1 (show wfL (MF.skip :: flatV todo) (c :: R) from hw)
  obtain ⟨v, rfl⟩ : ∃ v, c = .sc v := by
   cases c <;> first | exact ⟨_, rfl⟩ | exact hwc.elim
  have e1 : Q ++ .sc v :: R = (Q ++ [.sc v]) ++ R := by simp
  have e2 : TP ++ t :: tR = (TP ++ [t]) ++ tR := by simp
  have h1 : k + (0 + cntL (flatV todo) R : Nat) ≤ 4611686018427387904 := h1
  rw [e1, e2] at hy ⊢
  refine body_v todo (off + 1) (Q ++ [.sc v]) R (TP ++ [t]) tR k A D K hf (by simp [hT]) (by simp [hq]) hwR h0 (by omega) hy hD fun X => ?_
  have := h X
  rw [e2] at this
  simp only [List.append_assoc] at this ⊢
  exact this
 | .sub fs path g :: todo, off, Q, R, TP, tR, k, A, D, K, hf, hT, hq, hw, h0, h1, hy, hD, h => by
  cases R with
  | nil => exact absurd (show MF.sub fs :: flatV todo = [] from hw) (by simp)
  | cons c R =>
  cases tR with
  | nil => exact hf.elim
  | cons t tR =>
  obtain ⟨hpath, hmk, hrest⟩ := hf
  obtain ⟨hwc, hwR⟩ := wfL_cons.1 (show wfL (MF.sub fs :: flatV todo) (c :: R) from hw)
  obtain ⟨m, cells, rfl⟩ : ∃ m cells, c = .ro m cells := by
   cases c with
   | ro m cells => exact ⟨m, cells, rfl⟩
   | sc v => exact hwc.elim
   | _ => exact hwc.elim
  have h1 : k + (cntF (.sub fs) (.ro m cells) + cntL (flatV todo) R : Nat) ≤ 4611686018427387904 := h1
  have hk' := mkF_cnt (.ro m cells) (.sub fs) k
  have hn' := mkF_nb (.ro m cells) (.sub fs) k
  have hs' := mk_ro_same hmk k m cells
  have hmk2 := hmk.2.2.2 m cells k hwc h0 (by omega)
  have hl : (instL ti0 E0.tp A.length TP Q).1.length = Q.length := instL_len _ _ _
  have hsplit := fun (x : AV) => inst_mid (ti := ti0) (tp := E0.tp) TP tR t Q R x A.length hT
  rw [hsplit] at hy
  have hys : ys.drop off = (instT ti0 E0.tp (A.length + nbL Q) t (.ro m cells)).1 :: (instL ti0 E0.tp (A.length + nbL Q + nbT (.ro m cells)) tR R).1 := by
   rw [← hy, ← hq, ← hl, List.drop_append_of_le_length (Nat.le_refl _), List.drop_length, List.nil_append]
  have hlen : (instL ti0 E0.tp A.length (TP ++ t :: tR) (Q ++ .ro m cells :: R)).2.length = nbL (Q ++ .ro m cells :: R) := instL_nb _ _ _
  show (fadrs (PR n β) path (.ptr (A.length + nbL (Q ++ .ro m cells :: R) + idx) 0) fun t => pLoad false 1 t _ fun v => (PR n β).call tI (.fn g [] []) [v, .sc (.int .i64 k)] _ fun k H => bodyV (PR n β) tI _ todo k H K) = res
  rw [fadrs_ptr, hpath, Nat.zero_add]
  have hget : (A ++ ((instL ti0 E0.tp A.length (TP ++ t :: tR) (Q ++ .ro m cells :: R)).2 ++ D))[A.length + nbL (Q ++ .ro m cells :: R) + idx]? = some ⟨ys, true, true⟩ := by
   rw [List.getElem?_append_right (by omega), List.getElem?_append_right (by omega), hlen]
   rw [show A.length + nbL (Q ++ .ro m cells :: R) + idx - A.length - nbL (Q ++ .ro m cells :: R) = idx by omega]
   exact hD
  have hld : rdCells (A ++ ((instL ti0 E0.tp A.length (TP ++ t :: tR) (Q ++ .ro m cells :: R)).2 ++ D)) (A.length + nbL (Q ++ .ro m cells :: R) + idx) off 1 = some [(instT ti0 E0.tp (A.length + nbL Q) t (.ro m cells)).1] := by
   have hle : off + 1 ≤ ys.length := by
    have := congrArg List.length hys
    rw [List.length_drop, List.length_cons] at this
    omega
   simp only [rdCells, hget, if_true, hle, hys]
   rfl
  rw [ldF hld, PR_hm hmk.1 hmk.2.1]
  have e : ∀ (x : AV) (B : Heap), A ++ ((instL ti0 E0.tp A.length (TP ++ t :: tR) (Q ++ x :: R)).2 ++ B) = (A ++ (instL ti0 E0.tp A.length TP Q).2) ++ ((instT ti0 E0.tp (A.length + nbL Q) t x).2 ++ ((instL ti0 E0.tp (A.length + nbL Q + nbT x) tR R).2 ++ B)) := by
   intro x B
   simp only [hsplit, List.append_assoc]
  have hN : (A ++ (instL ti0 E0.tp A.length TP Q).2).length = A.length + nbL Q := by rw [List.length_append, instL_nb]
  rw [e]
  have key := hmk2 β (A ++ (instL ti0 E0.tp A.length TP Q).2) ((instL ti0 E0.tp (A.length + nbL Q + nbT (.ro m cells)) tR R).2 ++ D) (fun k H => bodyV (PR n β) tI (.ptr (A.length + nbL (Q ++ .ro m cells :: R) + idx) 0) todo k H K) res
  rw [hN] at key
  refine key fun X => ?_
  generalize hc' : (mkF (.sub fs) k (.ro m cells)).1 = c' at hn' hs' h ⊢
  have e1 : ∀ (Y : List AV), Q ++ c' :: Y = (Q ++ [c']) ++ Y := fun Y => by simp
  have e2 : TP ++ t :: tR = (TP ++ [t]) ++ tR := by simp
  have e3 : nbL (Q ++ .ro m cells :: R) = nbL ((Q ++ [c']) ++ R) := by
   rw [nbL_append, nbL_append, nbL_append]
   show nbL Q + (nbT (.ro m cells) + nbL R) = nbL Q + (nbT c' + 0) + nbL R
   rw [hn']
   omega
  have e4 := e c' (D ++ X)
  rw [hn'] at e4
  rw [List.append_assoc (instL ti0 E0.tp (A.length + nbL Q + nbT (.ro m cells)) tR R).2 D X, ← e4, e3, e2, e1 R]
  refine body_v (tI := tI) (idx := idx) (ys := ys) todo (off + 1) (Q ++ [c']) R (TP ++ [t]) tR (mkF (.sub fs) k (.ro m cells)).2 A (D ++ X) K hrest (by simp [hT]) (by simp [hq]) hwR (by omega) (by omega) ?_ ?_ fun Y => ?_
  ·rw [← e1, ← e2, hsplit, hs', hn', hy]
  ·rw [List.getElem?_append_left (List.getElem?_eq_some_iff.1 hD).1]
   exact hD
  ·have := h (X ++ Y)
   have hm : mkL (flatV (.sub fs path g :: todo)) k (.ro m cells :: R) = (c' :: (mkL (flatV todo) (mkF (.sub fs) k (.ro m cells)).2 R).1, (mkL (flatV todo) (mkF (.sub fs) k (.ro m cells)).2 R).2) := by rw [← hc']; rfl
   rw [hm, e2, e1] at this
   rw [List.append_assoc D X Y]
   exact this
 | .agg l path w g :: todo, off, Q, R, TP, tR, k, A, D, K, hf, hT, hq, hw, h0, h1, hy, hD, h => by
  obtain ⟨hpath, hlw, hw0, hlv, hmk, hwt, hrest⟩ := hf
  have hRlen : w ≤ R.length := by
   have := wfL_len (show wfL (l ++ flatV todo) R from hw)
   rw [List.length_append] at this
   omega
  obtain ⟨c, R, rfl, hcl⟩ : ∃ c R', R = c ++ R' ∧ c.length = w := ⟨R.take w, R.drop w, (List.take_append_drop w R).symm, by rw [List.length_take]; omega⟩
  obtain ⟨t, tR, rfl, htl⟩ : ∃ c R', tR = c ++ R' ∧ c.length = w := ⟨tR.take w, tR.drop w, (List.take_append_drop w tR).symm, by rw [List.length_take]; omega⟩
  rw [List.take_left' htl] at hmk
  rw [List.drop_left' htl] at hrest
  have hlc : l.length = c.length := by rw [hlw, hcl]
  obtain ⟨hwc, hwR⟩ := (wfL_append hlc).1 (show wfL (l ++ flatV todo) (c ++ R) from hw)
  have h1 : k + (cntL l c + cntL (flatV todo) R : Nat) ≤ 4611686018427387904 := by
   have := cntL_append l (flatV todo) c R hlc
   rw [← this]
   exact h1
  have hk' := mkL_cnt c l k
  have hn' := mkL_nb c l k
  have hl' := mkL_len c l k
  have hs' := fun N => mkL_same (ti := ti0) (tp := E0.tp) c l k N t hlv hwc
  have hl : (instL ti0 E0.tp A.length TP Q).1.length = Q.length := instL_len _ _ _
  have hsplit : ∀ x : List AV, x.length = c.length → instL ti0 E0.tp A.length (TP ++ (t ++ tR)) (Q ++ (x ++ R)) = ((instL ti0 E0.tp A.length TP Q).1 ++ ((instL ti0 E0.tp (A.length + nbL Q) t x).1 ++ (instL ti0 E0.tp (A.length + nbL Q + nbL x) tR R).1), (instL ti0 E0.tp A.length TP Q).2 ++ ((instL ti0 E0.tp (A.length + nbL Q) t x).2 ++ (instL ti0 E0.tp (A.length + nbL Q + nbL x) tR R).2)) := by
   intro x hx
   rw [instL_append TP Q (t ++ tR) (x ++ R) _ hT, instL_nb, instL_append t x tR R _ (by rw [htl, hx, hcl]), instL_nb]
  rw [hsplit c rfl] at hy
  have hil : (instL ti0 E0.tp (A.length + nbL Q) t c).1.length = w := by rw [instL_len, hcl]
  have hys : ys.drop off = (instL ti0 E0.tp (A.length + nbL Q) t c).1 ++ (instL ti0 E0.tp (A.length + nbL Q + nbL c) tR R).1 := by
   rw [← hy, ← hq, ← hl, List.drop_append_of_le_length (Nat.le_refl _), List.drop_length, List.nil_append]
  have hlen : (instL ti0 E0.tp A.length (TP ++ (t ++ tR)) (Q ++ (c ++ R))).2.length = nbL (Q ++ (c ++ R)) := instL_nb _ _ _
  show (fadrs (PR n β) path (.ptr (A.length + nbL (Q ++ (c ++ R)) + idx) 0) fun t => pLoad true w t _ fun v => (PR n β).call tI (.fn g [] []) [v, .sc (.int .i64 k)] _ fun k H => bodyV (PR n β) tI _ todo k H K) = res
  rw [fadrs_ptr, hpath, Nat.zero_add]
  have hget : (A ++ ((instL ti0 E0.tp A.length (TP ++ (t ++ tR)) (Q ++ (c ++ R))).2 ++ D))[A.length + nbL (Q ++ (c ++ R)) + idx]? = some ⟨ys, true, true⟩ := by
   rw [List.getElem?_append_right (by omega), List.getElem?_append_right (by omega), hlen]
   rw [show A.length + nbL (Q ++ (c ++ R)) + idx - A.length - nbL (Q ++ (c ++ R)) = idx by omega]
   exact hD
  have hld : rdCells (A ++ ((instL ti0 E0.tp A.length (TP ++ (t ++ tR)) (Q ++ (c ++ R))).2 ++ D)) (A.length + nbL (Q ++ (c ++ R)) + idx) off w = some (instL ti0 E0.tp (A.length + nbL Q) t c).1 := by
   have hle : off + w ≤ ys.length := by
    have := congrArg List.length hys
    rw [List.length_drop, List.length_append, hil] at this
    omega
   simp only [rdCells, hget, if_true, hle, hys]
   rw [List.take_left' hil]
  rw [ldT hld, PR_hm hmk.1 hmk.2.1]
  have e : ∀ (x : List AV) (B : Heap), x.length = c.length → A ++ ((instL ti0 E0.tp A.length (TP ++ (t ++ tR)) (Q ++ (x ++ R))).2 ++ B) = (A ++ (instL ti0 E0.tp A.length TP Q).2) ++ ((instL ti0 E0.tp (A.length + nbL Q) t x).2 ++ ((instL ti0 E0.tp (A.length + nbL Q + nbL x) tR R).2 ++ B)) := by
   intro x B hx
   simp only [hsplit x hx, List.append_assoc]
  have hN : (A ++ (instL ti0 E0.tp A.length TP Q).2).length = A.length + nbL Q := by rw [List.length_append, instL_nb]
  rw [e c _ rfl]
  have key := hmk.2.2 c k β (A ++ (instL ti0 E0.tp A.length TP Q).2) ((instL ti0 E0.tp (A.length + nbL Q + nbL c) tR R).2 ++ D) (fun k H => bodyV (PR n β) tI (.ptr (A.length + nbL (Q ++ (c ++ R)) + idx) 0) todo k H K) res hwc h0 (by omega)
  rw [hN] at key
  refine key fun X => ?_
  have hm : mkL (flatV (.agg l path w g :: todo)) k (c ++ R) = ((mkL l k c).1 ++ (mkL (flatV todo) (mkL l k c).2 R).1, (mkL (flatV todo) (mkL l k c).2 R).2) := mkL_append l (flatV todo) k c R hlc
  generalize hc' : (mkL l k c).1 = c' at hn' hl' hs' hm ⊢
  have e1 : ∀ (Y : List AV), Q ++ (c' ++ Y) = (Q ++ c') ++ Y := fun Y => by simp
  have e2 : TP ++ (t ++ tR) = (TP ++ t) ++ tR := by simp
  have e3 : nbL (Q ++ (c ++ R)) = nbL ((Q ++ c') ++ R) := by
   rw [nbL_append, nbL_append, nbL_append, nbL_append, hn']
   omega
  have e4 := e c' (D ++ X) hl'
  rw [hn'] at e4
  rw [List.append_assoc (instL ti0 E0.tp (A.length + nbL Q + nbL c) tR R).2 D X, ← e4, e3, e2, e1 R]
  refine body_v (tI := tI) (idx := idx) (ys := ys) todo (off + w) (Q ++ c') R (TP ++ t) tR (mkL l k c).2 A (D ++ X) K hrest (by simp [hT, htl, hl', hcl]) (by simp [hq, hl', hcl]) hwR (by omega) (by omega) ?_ ?_ fun Y => ?_
  ·rw [← e1, ← e2, hsplit _ hl', hs', hn', hy]
  ·rw [List.getElem?_append_left (List.getElem?_eq_some_iff.1 hD).1]
   exact hD
  ·have := h (X ++ Y)
   rw [hm, e2, e1] at this
   rw [List.append_assoc D X Y]
   exact this
theorem markv_ok {tI f : Nat} {cty : List Nat} {fvs : List FV} (hh : E0.hm f = true) (hx : E0.ext f = none) (hf : FvM n 0 fvs cty) (hv : (flatV fvs).all isV = true) (hlf : ∀ (cs : List AV) (N : Nat), wfL (flatV fvs) cs → (instL ti0 E0.tp N cty cs).1.all isLeaf = true)
  (hF : ∀ β a b H kk, evalFn E0 (n + 1) β f [a, b] H kk = pBox a H fun x H => bodyV (PR n β) tI x fvs b H kk) : MarkV (n + 1) f cty (flatV fvs) := by
 refine ⟨hh, hx, fun cs k β A C K r hw h0 hb h => ?_⟩
 rw [hF]
 have hc : cellsA (.agg (instL ti0 E0.tp A.length cty cs).1) = some (instL ti0 E0.tp A.length cty cs).1 := by
  show (if _ then _ else none) = _
  rw [if_pos (hlf cs _ hw)]
 simp only [pBox, hc, Option.bind_some, pNew]
 have hlen : (instL ti0 E0.tp A.length cty cs).2.length = nbL cs := instL_nb _ _ _
 have e1 : (A ++ ((instL ti0 E0.tp A.length cty cs).2 ++ C)).length = A.length + nbL ([] ++ cs) + C.length := by
  simp only [List.length_append, hlen, List.nil_append]
  omega
 rw [e1]
 have e2 : A ++ ((instL ti0 E0.tp A.length cty cs).2 ++ C) ++ [⟨(instL ti0 E0.tp A.length cty cs).1, true, true⟩] = A ++ ((instL ti0 E0.tp A.length ([] ++ cty) ([] ++ cs)).2 ++ (C ++ [⟨(instL ti0 E0.tp A.length cty cs).1, true, true⟩])) := by simp
 rw [e2]
 refine body_v fvs 0 [] cs [] cty k A _ K hf rfl rfl hw h0 hb rfl (by rw [List.getElem?_append_right (Nat.le_refl _), Nat.sub_self]; rfl) fun X => ?_
 have := h ([⟨(instL ti0 E0.tp A.length cty cs).1, true, true⟩] ++ X)
 simp only [List.append_assoc, List.nil_append] at this ⊢
 exact this
theorem body_hv {tI : Nat} {F : Heap → Option β} (cells : List AV) (hfl : cells.all isFl = true) : ∀ (todo : List FV) (off : Nat) (Q R : List AV) (k : Int) (H : Heap) (K : AV → Heap → Option β),
  FvH n off todo → Q.length = off → wfL (flatV todo) R → 0 ≤ k → k + cntL (flatV todo) R ≤ 4611686018427387904 → cells = Q ++ (mkL (flatV todo) k R).1 → H[0]? = some ⟨cells, true, true⟩ →
  (∀ X, K (.sc (.int .i64 (mkL (flatV todo) k R).2)) (H ++ X) = res) →
  bodyHV (PR n β) tI (.ptr 0 0) F todo (.sc (.int .i64 k)) H K = res
 | [], off, Q, R, k, H, K, hf, hq, hw, h0, h1, hc, hH, h => by
  cases R with
  | nil =>
   have := h []
   rw [List.append_nil H] at this
   exact this
  | cons c R => exact absurd rfl hw.1
 | .skip :: todo, off, Q, R, k, H, K, hf, hq, hw, h0, h1, hc, hH, h => by
  cases R with
  | nil => exact absurd (show MF.skip :: flatV todo = [] from hw) (by simp)
  | cons c R =>
  obtain ⟨hwc, hwR⟩ := wfL_cons.1 (show wfL (MF.skip :: flatV todo) (c :: R) from hw)
  obtain ⟨v, rfl⟩ : ∃ v, c = .sc v := by
   cases c <;> first | exact ⟨_, rfl⟩ | exact hwc.elim
  have h1 : k + (0 + cntL (flatV todo) R : Nat) ≤ 4611686018427387904 := h1
  exact body_hv cells hfl todo (off + 1) (Q ++ [.sc v]) R k H K hf (by simp [hq]) hwR h0 (by omega) (by rw [List.append_assoc]; exact hc) hH h
 | .sub fs path g :: todo, off, Q, R, k, H, K, hf, hq, hw, h0, h1, hc, hH, h => by
  cases R with
  | nil => exact absurd (show MF.sub fs :: flatV todo = [] from hw) (by simp)
  | cons c R =>
  obtain ⟨hpath, hhe, hrest⟩ := hf
  obtain ⟨hwc, hwR⟩ := wfL_cons.1 (show wfL (MF.sub fs :: flatV todo) (c :: R) from hw)
  obtain ⟨m, cs, rfl⟩ : ∃ m cells, c = .ro m cells := by
   cases c with
   | ro m cells => exact ⟨m, cells, rfl⟩
   | sc v => exact hwc.elim
   | _ => exact hwc.elim
  have h1 : k + (cntF (.sub fs) (.ro m cs) + cntL (flatV todo) R : Nat) ≤ 4611686018427387904 := h1
  have hk' := mkF_cnt (.ro m cs) (.sub fs) k
  have hm : mkL (flatV (.sub fs path g :: todo)) k (.ro m cs :: R) = ((mkF (.sub fs) k (.ro m cs)).1 :: (mkL (flatV todo) (mkF (.sub fs) k (.ro m cs)).2 R).1, (mkL (flatV todo) (mkF (.sub fs) k (.ro m cs)).2 R).2) := rfl
  rw [hm] at hc h
  have hld : rdCells H 0 off 1 = some [(mkF (.sub fs) k (.ro m cs)).1] := by
   have hle : off + 1 ≤ cells.length := by
    rw [hc, List.length_append, List.length_cons]
    omega
   have hd : (cells.drop off).take 1 = [(mkF (.sub fs) k (.ro m cs)).1] := by
    rw [hc, ← hq, List.drop_append_of_le_length (Nat.le_refl _), List.drop_length]
    rfl
   simp only [rdCells, hH, if_true, hle, hd]
  show (fadrs (PR n β) path (.ptr 0 0) fun t => pLoad false 1 t H fun v => (PR n β).call tI (.fn g [] []) [v, .sc (.int .i64 k)] H fun k H => pBin .lss k (.sc (.int .i64 0)) fun b => pCond b (F H) (bodyHV (PR n β) tI _ F todo k H K)) = res
  rw [fadrs_ptr, hpath, Nat.zero_add, ldF hld, PR_call (vs := [(mkF (.sub fs) k (.ro m cs)).1, .sc (.int .i64 k)]) hhe.1 rfl (hhe.2 tI m cs k hwc h0 (by omega)), instT_sc, List.append_nil]
  simp only
  rw [lss64, cond_b, if_neg (by simp; omega)]
  exact body_hv cells hfl todo (off + 1) (Q ++ [(mkF (.sub fs) k (.ro m cs)).1]) R _ H K hrest (by simp [hq]) hwR (by omega) (by omega) (by rw [List.append_assoc]; exact hc) hH h
 | .agg l path w g :: todo, off, Q, R, k, H, K, hf, hq, hw, h0, h1, hc, hH, h => by
  obtain ⟨hpath, hlw, hw0, hhe, hrest⟩ := hf
  have hRlen : w ≤ R.length := by
   have := wfL_len (show wfL (l ++ flatV todo) R from hw)
   rw [List.length_append] at this
   omega
  obtain ⟨c, R, rfl, hcl⟩ : ∃ c R', R = c ++ R' ∧ c.length = w := ⟨R.take w, R.drop w, (List.take_append_drop w R).symm, by rw [List.length_take]; omega⟩
  have hlc : l.length = c.length := by rw [hlw, hcl]
  obtain ⟨hwc, hwR⟩ := (wfL_append hlc).1 (show wfL (l ++ flatV todo) (c ++ R) from hw)
  have h1 : k + (cntL l c + cntL (flatV todo) R : Nat) ≤ 4611686018427387904 := by
   have := cntL_append l (flatV todo) c R hlc
   rw [← this]
   exact h1
  have hk' := mkL_cnt c l k
  have hl' := mkL_len c l k
  have hm : mkL (flatV (.agg l path w g :: todo)) k (c ++ R) = ((mkL l k c).1 ++ (mkL (flatV todo) (mkL l k c).2 R).1, (mkL (flatV todo) (mkL l k c).2 R).2) := mkL_append l (flatV todo) k c R hlc
  rw [hm] at hc h
  have hd : (cells.drop off).take w = (mkL l k c).1 := by
   rw [hc, ← hq, List.drop_append_of_le_length (Nat.le_refl _), List.drop_length, List.nil_append, List.take_left' (by rw [hl', hcl])]
  have hld : rdCells H 0 off w = some (mkL l k c).1 := by
   have hle : off + w ≤ cells.length := by
    rw [hc, List.length_append, List.length_append, hl', hcl]
    omega
   simp only [rdCells, hH, if_true, hle, hd]
  have hfc : (mkL l k c).1.all isFl = true := by
   rw [hc, List.all_append, List.all_append, Bool.and_eq_true, Bool.and_eq_true] at hfl
   exact hfl.2.1
  show (fadrs (PR n β) path (.ptr 0 0) fun t => pLoad true w t H fun v => (PR n β).call tI (.fn g [] []) [v, .sc (.int .i64 k)] H fun k H => pBin .lss k (.sc (.int .i64 0)) fun b => pCond b (F H) (bodyHV (PR n β) tI _ F todo k H K)) = res
  rw [fadrs_ptr, hpath, Nat.zero_add, ldT hld, PR_call (vs := [.agg (mkL l k c).1, .sc (.int .i64 k)]) hhe.1 (vcons (Vw_agg _ hfc) (vcons (Vw_sc _ _) vnil)) (hhe.2 tI c k hwc h0 (by omega)), instT_sc, List.append_nil]
  simp only
  rw [lss64, cond_b, if_neg (by simp; omega)]
  exact body_hv cells hfl todo (off + w) (Q ++ (mkL l k c).1) R _ H K hrest (by simp [hq, hl', hcl]) hwR (by omega) (by omega) (by rw [List.append_assoc]; exact hc) hH h
theorem mkL_fl : ∀ (cs : List AV) (fs : List MF) (k : Int), wfL fs cs → fs.all isV = true → (mkL fs k cs).1.all isFl = true
 | [], fs, k, _, _ => by simp [mkL]
 | c :: cs, [], k, hw, _ => absurd rfl hw.1
 | c :: cs, f :: fs, k, hw, hv => by
  obtain ⟨h1, h2⟩ := wfL_cons.1 hw
  rw [List.all_cons, Bool.and_eq_true] at hv
  rw [mkL_cons, List.all_cons, mkL_fl cs fs _ h2 hv.2, Bool.and_true]
  cases c with
  | sc v => cases f <;> first | exact h1 | (exfalso; simpa [isV] using hv.1) | exact h1.elim
  | ro m cells => cases f <;> first | rfl | exact h1.elim
  | _ => exact h1.elim
theorem heldv_ok {tI f : Nat} {fvs : List FV} (hh : plainF f = false) (hf : FvH n 0 fvs) (hv : (flatV fvs).all isV = true)
  (hF : ∀ a b H kk, evalFn E0 (n + 1) AV f [a, b] H kk = pBox a H fun x H => bodyHV (PR n AV) tI x (fun H => kk (.sc (.int .i64 (-1))) H) fvs b H kk) : HeldV (n + 1) f (flatV fvs) := by
 refine ⟨hh, fun ty cs k hw h0 hb => ?_⟩
 have hfl := mkL_fl cs (flatV fvs) k hw hv
 rw [tree_def, hF, box_fl _ _ _ hfl]
 exact body_hv (mkL (flatV fvs) k cs).1 hfl fvs 0 [] cs k _ _ hf rfl hw h0 hb rfl rfl (fun X => rfl)
end fns
end Go.Proofs.YtejjggnchdldoaaGreatDoor.Abs
set_option linter.unusedVariables false
set_option linter.unusedSimpArgs false
namespace Go.Proofs.YtejjggnchdldoaaGreatDoor.Abs
open Go
def AtT (H : Heap) (y : AV) (N ty : Nat) (t : AV) : Prop := y = (instT ti0 E0.tp N ty t).1 ∧ N + nbT t ≤ H.length ∧ Lies H N (instT ti0 E0.tp N ty t).2
def AtL (H : Heap) (ys : List AV) (N : Nat) (ts : List Nat) (cs : List AV) : Prop := ys = (instL ti0 E0.tp N ts cs).1 ∧ N + nbL cs ≤ H.length ∧ Lies H N (instL ti0 E0.tp N ts cs).2
def Kept (H H' : Heap) (N m : Nat) : Prop := H.length ≤ H'.length ∧ ∀ (i : Nat) b, H[i]? = some b → (i < N ∨ N + m ≤ i) → H'[i]? = some b
theorem Lies.grow {H : Heap} {N : Nat} {B : List Blk} (h : Lies H N B) (X : List Blk) : Lies (H ++ X) N B := fun j b hj => by
 have := h j b hj
 rw [List.getElem?_append_left (List.getElem?_eq_some_iff.1 this).1]
 exact this
theorem Lies.kept {H H' : Heap} {N M m : Nat} {B : List Blk} (h : Lies H N B) (k : Kept H H' M m) (hd : N + B.length ≤ M ∨ M + m ≤ N) : Lies H' N B := fun j b hj => by
 have hlt := (List.getElem?_eq_some_iff.1 hj).1
 exact k.2 _ b (h j b hj) (by omega)
theorem AtT.grow {H : Heap} {y : AV} {N ty : Nat} {t : AV} (h : AtT H y N ty t) (X : List Blk) : AtT (H ++ X) y N ty t := ⟨h.1, by rw [List.length_append]; have := h.2.1; omega, h.2.2.grow X⟩
theorem AtL.grow {H : Heap} {ys : List AV} {N : Nat} {ts : List Nat} {cs : List AV} (h : AtL H ys N ts cs) (X : List Blk) : AtL (H ++ X) ys N ts cs := ⟨h.1, by rw [List.length_append]; have := h.2.1; omega, h.2.2.grow X⟩
theorem AtT.kept {H H' : Heap} {y : AV} {N ty M m : Nat} {t : AV} (h : AtT H y N ty t) (k : Kept H H' M m) (hd : N + nbT t ≤ M ∨ M + m ≤ N) : AtT H' y N ty t := ⟨h.1, Nat.le_trans h.2.1 k.1, h.2.2.kept k (by rw [inst_nb]; exact hd)⟩
theorem AtL.kept {H H' : Heap} {ys : List AV} {N M m : Nat} {ts : List Nat} {cs : List AV} (h : AtL H ys N ts cs) (k : Kept H H' M m) (hd : N + nbL cs ≤ M ∨ M + m ≤ N) : AtL H' ys N ts cs := ⟨h.1, Nat.le_trans h.2.1 k.1, h.2.2.kept k (by rw [instL_nb]; exact hd)⟩
theorem blk_kept {H H' : Heap} {i M m : Nat} {b : Blk} (h : H[i]? = some b) (k : Kept H H' M m) (hd : i < M ∨ M + m ≤ i) : H'[i]? = some b := k.2 i b h hd
theorem AtL.cons {H : Heap} {ys : List AV} {N t : Nat} {ts : List Nat} {c : AV} {cs : List AV} (h : AtL H ys N (t :: ts) (c :: cs)) : ∃ y ys', ys = y :: ys' ∧ AtT H y N t c ∧ AtL H ys' (N + nbT c) ts cs := by
 obtain ⟨h1, h2, h3⟩ := h
 have h2 : N + (nbT c + nbL cs) ≤ H.length := h2
 have e : instL ti0 E0.tp N (t :: ts) (c :: cs) = ((instT ti0 E0.tp N t c).1 :: (instL ti0 E0.tp (N + nbT c) ts cs).1, (instT ti0 E0.tp N t c).2 ++ (instL ti0 E0.tp (N + nbT c) ts cs).2) := by
  rw [instL, inst_nb]
  rfl
 rw [e] at h1 h3
 refine ⟨_, _, h1, ⟨rfl, by omega, h3.left⟩, ⟨rfl, by omega, ?_⟩⟩
 have := h3.right
 rwa [inst_nb] at this
theorem AtL.nil {H : Heap} {ys : List AV} {N : Nat} {ts : List Nat} (h : AtL H ys N ts []) : ys = [] := h.1
theorem AtT.sc {H : Heap} {y : AV} {N ty : Nat} {v : Value} (h : AtT H y N ty (.sc v)) : y = .sc v := h.1
theorem AtT.agg {H : Heap} {y : AV} {N ty : Nat} {cs : List AV} {cty : List Nat} (h : AtT H y N ty (.agg cs)) (hty : ∃ i, ti0 ty = some i ∧ i.cty = cty) : ∃ ys, y = .agg ys ∧ AtL H ys N cty cs := by
 obtain ⟨i, hi, rfl⟩ := hty
 obtain ⟨h1, h2, h3⟩ := h
 rw [instT_agg, hi, Option.getD_some] at h1 h3
 exact ⟨_, h1, rfl, h2, h3⟩
theorem AtT.vw {H : Heap} {y : AV} {N ty : Nat} {t : AV} (h : AtT H y N ty t) (hok : okW ti0 E0.tp 8 ty t) : Vw H y t := fun X => by
 rw [h.1]
 exact view_inst 8 ty t N (okW_okTr 8 ty t hok) (h.2.2.grow X)
theorem AtL.vw {H : Heap} {ys : List AV} {N : Nat} {ts : List Nat} {cs : List AV} (h : AtL H ys N ts cs) (hok : okLW (okW ti0 E0.tp 7) ts cs) : Vw H (.agg ys) (.agg cs) := fun X => by
 rw [h.1, viewV_agg, view_instL (fun ty t N => view_inst 7 ty t N) cs ts N (okLW_okL (okW_okTr 7) hok) (h.2.2.grow X)]
 rfl
theorem AtL.leaf {H : Heap} {ys : List AV} {N : Nat} {ts : List Nat} {cs : List AV} (h : AtL H ys N ts cs) (hf : cs.all isFl = true) : ys.all isLeaf = true := by
 rw [h.1]
 exact instL_leaf _ _ _ hf
theorem AtL.len {H : Heap} {ys : List AV} {N : Nat} {ts : List Nat} {cs : List AV} (h : AtL H ys N ts cs) : ys.length = cs.length := by rw [h.1, instL_len]
theorem okLW_mk {d : Nat} (hd : ∀ ty x f k, okW ti0 E0.tp d ty x → okW ti0 E0.tp d ty (mkF f k x).1) : ∀ (cs : List AV) (ts : List Nat) (fs : List MF) (k : Int), okLW (okW ti0 E0.tp d) ts cs → okLW (okW ti0 E0.tp d) ts (mkL fs k cs).1
 | [], ts, fs, k, h => by simpa [mkL] using h
 | c :: cs, [], fs, k, h => h.elim
 | c :: cs, t :: ts, fs, k, h => ⟨hd _ _ _ _ h.1, okLW_mk hd cs ts fs.tail _ h.2⟩
theorem okW_mk : ∀ (d ty : Nat) (x : AV) (f : MF) (k : Int), okW ti0 E0.tp d ty x → okW ti0 E0.tp d ty (mkF f k x).1
 | 0, _, _, _, _, h => h
 | d + 1, ty, x, f, k, h => by
  cases x with
  | sc v => cases f <;> trivial
  | ro n cells =>
   cases f with
   | sub fs =>
    obtain ⟨i, j, h1, h2, h3, h4⟩ := h
    exact ⟨i, j, h1, h2, by rw [mkL_len]; exact h3, okLW_mk (okW_mk d) _ _ _ _ h4⟩
   | _ => exact h
  | _ => exact h
theorem okLW_mk7 {cs : List AV} {ts : List Nat} (fs : List MF) (k : Int) (h : okLW (okW ti0 E0.tp 7) ts cs) : okLW (okW ti0 E0.tp 7) ts (mkL fs k cs).1 := okLW_mk (okW_mk 7) cs ts fs k h
section steps
variable {β : Type} {n : Nat} {H : Heap} {r : Option β}
theorem lm_tree {ty f : Nat} {args vs : List AV} {t : AV} {K : AV → Heap → Option β} (hh : plainF f = false) (hv : args.mapM (viewV H 8) = some vs) (ht : tree E0 n ty f vs = some t) (h : ∀ y X N, N = H.length → AtT (H ++ X) y N ty t → K y (H ++ X) = r) : (PR n β).call ty (.fn f [] []) args H (fun x H => K x H) = r := by
 rw [PR_call hh hv ht]
 exact h _ _ _ rfl ⟨rfl, by rw [List.length_append, inst_nb]; exact Nat.le_refl _, Lies_end _ _⟩
theorem lm_tup {ty f : Nat} {args vs cs : List AV} {ts : List Nat} {K : AV → Heap → Option β} (hh : plainF f = false) (hv : args.mapM (viewV H 8) = some vs) (ht : tree E0 n ty f vs = some (.tup cs)) (hts : E0.tp ty = some ts) (h : ∀ ys X N, N = H.length → AtL (H ++ X) ys N ts cs → K (.tup ys) (H ++ X) = r) : (PR n β).call ty (.fn f [] []) args H (fun x H => K x H) = r := by
 rw [PR_call hh hv ht, instT_tup, hts, Option.getD_some]
 exact h _ _ _ rfl ⟨rfl, by rw [List.length_append, instL_nb]; exact Nat.le_refl _, Lies_end _ _⟩
theorem lm_agg {ty f : Nat} {args vs cs : List AV} {cty : List Nat} {K : AV → Heap → Option β} (hh : plainF f = false) (hv : args.mapM (viewV H 8) = some vs) (ht : tree E0 n ty f vs = some (.agg cs)) (hty : ∃ i, ti0 ty = some i ∧ i.cty = cty) (h : ∀ ys X N, N = H.length → AtL (H ++ X) ys N cty cs → K (.agg ys) (H ++ X) = r) : (PR n β).call ty (.fn f [] []) args H (fun x H => K x H) = r := by
 obtain ⟨i, hi, rfl⟩ := hty
 rw [PR_call hh hv ht, instT_agg, hi, Option.getD_some]
 exact h _ _ _ rfl ⟨rfl, by rw [List.length_append, instL_nb]; exact Nat.le_refl _, Lies_end _ _⟩
theorem lm_put {w : Nat} {z ys : List AV} {K : AV → Heap → Option β} (hz : z.length = w) (hy : ys.length = w) (hl : ys.all isLeaf = true) (h : ∀ i, i = H.length → (H ++ [⟨ys, true, true⟩])[i]? = some ⟨ys, true, true⟩ → K (.ptr i 0) (H ++ [⟨ys, true, true⟩]) = r) :
  pNew z H (fun t H => pStore w t (.agg ys) H fun H => K t H) = r := by
 have hg : (H ++ [(⟨z, true, true⟩ : Blk)])[H.length]? = some ⟨z, true, true⟩ := get_at H _ []
 have hc : cellsA (.agg ys) = some ys := by
  show (if ys.all isLeaf then some ys else none) = _
  rw [if_pos hl]
 show pStore w (.ptr H.length 0) (.agg ys) (H ++ [⟨z, true, true⟩]) _ = r
 rw [st_at w H.length 0 _ ⟨z, true, true⟩ ys _ _ hg hc hy (by rw [hz]; omega) rfl]
 have hs : splice z 0 ys = ys := by
  unfold splice
  rw [List.take_zero, List.nil_append, List.drop_of_length_le (by rw [hz, hy]; omega), List.append_nil]
 simp only [hs, set_at]
 exact h _ rfl (get_at H _ [])
theorem cut_at {N : Nat} {B : List Blk} (h1 : N + B.length ≤ H.length) (h2 : Lies H N B) : ∃ A C : Heap, A.length = N ∧ H = A ++ (B ++ C) := by
 refine ⟨H.take N, H.drop (N + B.length), by rw [List.length_take]; omega, ?_⟩
 have e : (H.drop N).take B.length = B := by
  apply List.ext_getElem?
  intro j
  by_cases hj : j < B.length
  ·rw [List.getElem?_take_of_lt hj, List.getElem?_drop]
   have hb : B[j]? = some (B[j]) := List.getElem?_eq_getElem hj
   rw [hb, h2 j _ hb]
  ·rw [List.getElem?_eq_none (by rw [List.length_take]; omega), List.getElem?_eq_none (by omega)]
 conv => lhs; rw [← List.take_append_drop N H, ← List.take_append_drop B.length (H.drop N), e, List.drop_drop]
theorem kept_at {A B B' C X : Heap} (hl : B'.length = B.length) : Kept (A ++ (B ++ C)) (A ++ (B' ++ (C ++ X))) A.length B.length := by
 refine ⟨by simp only [List.length_append, hl]; omega, fun i b h hd => ?_⟩
 rcases hd with hd | hd
 ·rw [List.getElem?_append_left hd] at h ⊢
  exact h
 ·rw [List.getElem?_append_right (by omega), List.getElem?_append_right (by omega)] at h ⊢
  rw [hl, List.getElem?_append_left (List.getElem?_eq_some_iff.1 h).1]
  exact h
theorem lm_mark {tI g ty N : Nat} {fs : List MF} {t : AV} {y : AV} {k : Int} {K : AV → Heap → Option β} (hmk : MarkOk n g ty fs) (hro : ∃ len cells, t = .ro len cells) (ha : AtT H y N ty t) (hw : wfF (.sub fs) t) (h0 : 0 ≤ k) (hb : k + cntF (.sub fs) t ≤ 4611686018427387904)
  (h : ∀ H', AtT H' y N ty (mkF (.sub fs) k t).1 → Kept H H' N (nbT t) → K (.sc (.int .i64 (k + cntF (.sub fs) t))) H' = r) : (PR n β).call tI (.fn g [] []) [y, .sc (.int .i64 k)] H (fun x H => K x H) = r := by
 obtain ⟨len, cells, rfl⟩ := hro
 obtain ⟨rfl, h2, h3⟩ := ha
 have hnb : ∀ M, (instT ti0 E0.tp M ty (.ro len cells)).2.length = nbT (.ro len cells) := fun M => inst_nb _ _ _
 obtain ⟨A, C, rfl, rfl⟩ := cut_at (by rw [hnb]; exact h2) h3
 rw [PR_hm hmk.1 hmk.2.1]
 refine hmk.2.2.2 len cells k hw h0 hb β A C _ r fun X => ?_
 rw [mkF_cnt]
 have hl : (instT ti0 E0.tp A.length ty (mkF (.sub fs) k (.ro len cells)).1).2.length = (instT ti0 E0.tp A.length ty (.ro len cells)).2.length := by rw [inst_nb, inst_nb, mkF_nb]
 refine h _ ⟨(mk_ro_same hmk k len cells A.length).symm, ?_, ?_⟩ ?_
 ·rw [mkF_nb]
  simp only [List.length_append, inst_nb, mkF_nb]
  omega
 ·have := Lies_in A (instT ti0 E0.tp A.length ty (mkF (.sub fs) k (.ro len cells)).1).2 (C ++ X)
  rwa [List.append_assoc] at this
 ·rw [← hnb A.length]
  exact kept_at hl
theorem lm_markv {tI g N : Nat} {cty : List Nat} {fs : List MF} {cs ys : List AV} {k : Int} {K : AV → Heap → Option β} (hmk : MarkV n g cty fs) (hv : fs.all isV = true) (ha : AtL H ys N cty cs) (hw : wfL fs cs) (h0 : 0 ≤ k) (hb : k + cntL fs cs ≤ 4611686018427387904)
  (h : ∀ H', AtL H' ys N cty (mkL fs k cs).1 → Kept H H' N (nbL cs) → K (.sc (.int .i64 (k + cntL fs cs))) H' = r) : (PR n β).call tI (.fn g [] []) [.agg ys, .sc (.int .i64 k)] H (fun x H => K x H) = r := by
 obtain ⟨rfl, h2, h3⟩ := ha
 have hnb : ∀ M, (instL ti0 E0.tp M cty cs).2.length = nbL cs := fun M => instL_nb _ _ _
 obtain ⟨A, C, rfl, rfl⟩ := cut_at (by rw [hnb]; exact h2) h3
 rw [PR_hm hmk.1 hmk.2.1]
 refine hmk.2.2 cs k β A C _ r hw h0 hb fun X => ?_
 rw [mkL_cnt]
 have hl : (instL ti0 E0.tp A.length cty (mkL fs k cs).1).2.length = (instL ti0 E0.tp A.length cty cs).2.length := by rw [instL_nb, instL_nb, mkL_nb]
 refine h _ ⟨(mkL_same cs fs k A.length cty hv hw).symm, ?_, ?_⟩ ?_
 ·rw [mkL_nb]
  simp only [List.length_append, instL_nb, mkL_nb]
  omega
 ·have := Lies_in A (instL ti0 E0.tp A.length cty (mkL fs k cs).1).2 (C ++ X)
  rwa [List.append_assoc] at this
 ·rw [← hnb A.length]
  exact kept_at hl
theorem lm_held {tI g : Nat} {fs : List MF} {t : AV} {y : AV} {k : Int} {K : AV → Heap → Option β} (hhe : HeldOk n g fs) (hro : ∃ len cells, t = .ro len cells) (hv : Vw H y (mkF (.sub fs) k t).1) (hw : wfF (.sub fs) t) (h0 : 0 ≤ k) (hb : k + cntF (.sub fs) t ≤ 4611686018427387904)
  {F : Heap → Option β} (h : K (.sc (.int .i64 (k + cntF (.sub fs) t))) H = r) : (PR n β).call tI (.fn g [] []) [y, .sc (.int .i64 k)] H (fun t H => pBin .lss t (.sc (.int .i64 0)) fun t' => pCond t' (F H) (K t H)) = r := by
 obtain ⟨len, cells, rfl⟩ := hro
 refine lw_sc hhe.1 (vcons hv (vcons (Vw_sc _ _) vnil)) (hhe.2 tI len cells k hw h0 hb) ?_
 rw [mkF_cnt, lss64, cond_b, if_neg (by simp; omega)]
 exact h
theorem lm_heldv {tI g : Nat} {fs : List MF} {cs : List AV} {y : AV} {k : Int} {K : AV → Heap → Option β} (hhe : HeldV n g fs) (hv : Vw H y (.agg (mkL fs k cs).1)) (hw : wfL fs cs) (h0 : 0 ≤ k) (hb : k + cntL fs cs ≤ 4611686018427387904)
  {F : Heap → Option β} (h : K (.sc (.int .i64 (k + cntL fs cs))) H = r) : (PR n β).call tI (.fn g [] []) [y, .sc (.int .i64 k)] H (fun t H => pBin .lss t (.sc (.int .i64 0)) fun t' => pCond t' (F H) (K t H)) = r := by
 refine lw_sc hhe.1 (vcons hv (vcons (Vw_sc _ _) vnil)) (hhe.2 tI cs k hw h0 hb) ?_
 rw [mkL_cnt, lss64, cond_b, if_neg (by simp; omega)]
 exact h
theorem lm_gf {m : (AV → Heap → Option β) → Option β} {k : AV → Heap → Option β} (h : m k = r) : pGuard (.sc (.bool false)) false H m k = r := h
theorem lm_pk {v : Value} {K : AV → Option β} (h : K (.sc v) = r) : pPick (.sc (.bool false)) (.sc (.bool true)) (.sc v) (fun t => K t) = r := h
theorem lm_not {b : Bool} {K : AV → Option β} (h : K (.sc (.bool (!b))) = r) : pUn .not (.sc (.bool b)) (fun t => K t) = r := h
theorem lm_cf {A K : Option β} (h : K = r) : pCond (.sc (.bool false)) A K = r := h
theorem lm_eq {ty f : Nat} {args vs : List AV} {K : AV → Heap → Option β} (hh : plainF f = false) (hv : args.mapM (viewV H 8) = some vs) (ht : tree E0 n ty f vs = some (.sc (.bool true))) (h : K (.sc (.bool true)) H = r) : (PR n β).call ty (.fn f [] []) args H (fun t H => K t H) = r := lw_sc hh hv ht h
theorem lm_neB {b : Bool} {K : AV → Option β} (h : K (.sc (.bool false)) = r) : pBinB .neq (.sc (.bool b)) (.sc (.bool b)) (fun t => K t) = r := by
 rw [neqB]
 cases b <;> exact h
theorem lm_neI {z : Int} {K : AV → Option β} (h : K (.sc (.bool false)) = r) : pBin .neq (.sc (.int .i64 z)) (.sc (.int .i64 z)) (fun t => K t) = r := by
 rw [neq64, bne_self_eq_false]
 exact h
theorem lm_neg {z : Int} {K : AV → Option β} (h0 : 0 ≤ z) (h : K (.sc (.bool false)) = r) : pBin .lss (.sc (.int .i64 z)) (.sc (.int .i64 0)) (fun t => K t) = r := by
 rw [lss64, show decide (z < 0) = false from by simp; omega]
 exact h
theorem lm_ex {vs : List AV} {i : Nat} {v : AV} {K : AV → Option β} (hi : vs[i]? = some v) (h : K v = r) : pExtr (.tup vs) i (fun t => K t) = r := by
 simp only [pExtr, hi, Option.bind_some]
 exact h
end steps
end Go.Proofs.YtejjggnchdldoaaGreatDoor.Abs
set_option linter.unusedVariables false
set_option linter.unusedSimpArgs false
set_option maxRecDepth 100000
namespace Go.Proofs.YtejjggnchdldoaaGreatDoor.Abs
open Go
variable {α : Type}
theorem wfv_fl : ∀ (cs : List AV) (fs : List MF), wfL fs cs → fs.all isV = true → cs.all isFl = true
 | [], fs, _, _ => rfl
 | c :: cs, [], hw, _ => absurd rfl hw.1
 | c :: cs, f :: fs, hw, hv => by
  obtain ⟨h1, h2⟩ := wfL_cons.1 hw
  rw [List.all_cons, Bool.and_eq_true] at hv
  rw [List.all_cons, wfv_fl cs fs h2 hv.2, Bool.and_true]
  cases c with
  | sc v => cases f <;> first | exact h1 | (exfalso; simpa [isV] using hv.1) | exact h1.elim
  | ro m cells => cases f <;> first | rfl | exact h1.elim
  | _ => exact h1.elim
theorem cnt_cc {f : MF} {fs : List MF} {c : AV} {cs : List AV} {a b : Nat} (h1 : cntF f c = a) (h2 : cntL fs cs = b) : cntL (f :: fs) (c :: cs) = a + b := by
 subst h1
 subst h2
 rfl
theorem mk_txt (n : Nat) (hn : 1048576 < n) : TxtOk (n + 1) 9 79 := txt_ok (n := n) rfl hn (fun kk => f79_l0 (PR n AV) n kk) (fun kk m k s H => rfl) (fun a H kk => f79_eq n a H kk)
def fdByteS : List FD := [⟨.byt, [], 0⟩]
def mfByteS : List MF := fdByteS.map FD.f
theorem mk_ByteS (n : Nat) (hn : 1048576 < n) : MarkOk (n + 2) 64 43 mfByteS :=
 mark_ok (n := n + 1) (tI := 3) (w := 1) (cty := [5]) (fds := fdByteS) rfl rfl (mk_txt n hn) ⟨rfl, trivial, trivial⟩ rfl ⟨_, _, rfl, rfl, rfl, rfl⟩ (by omega) (fun β kk => f64_l0 (PR (n + 1) β) (n + 1) kk) (fun β kk m a k i H => rfl) (fun β a b H kk => f64_eq (n + 1) a b H kk)
theorem hd_ByteS (n : Nat) (hn : 1048576 < n) : HeldOk (n + 2) 82 mfByteS :=
 held_ok (n := n + 1) (tI := 3) (w := 1) (fds := fdByteS) rfl (mk_txt n hn) ⟨rfl, trivial, trivial⟩ rfl (by decide) (by omega) (fun kk => f82_l0 (PR (n + 1) AV) (n + 1) kk) (fun kk m a k i H => rfl) (fun a b H kk => f82_eq (n + 1) a b H kk)
def fdIntS : List FD := [⟨.int, [], 0⟩]
def mfIntS : List MF := fdIntS.map FD.f
theorem mk_IntS (n : Nat) (hn : 1048576 < n) : MarkOk (n + 2) 56 26 mfIntS :=
 mark_ok (n := n + 1) (tI := 3) (w := 1) (cty := [3]) (fds := fdIntS) rfl rfl (mk_txt n hn) ⟨rfl, trivial, trivial⟩ rfl ⟨_, _, rfl, rfl, rfl, rfl⟩ (by omega) (fun β kk => f56_l0 (PR (n + 1) β) (n + 1) kk) (fun β kk m a k i H => rfl) (fun β a b H kk => f56_eq (n + 1) a b H kk)
theorem hd_IntS (n : Nat) (hn : 1048576 < n) : HeldOk (n + 2) 57 mfIntS :=
 held_ok (n := n + 1) (tI := 3) (w := 1) (fds := fdIntS) rfl (mk_txt n hn) ⟨rfl, trivial, trivial⟩ rfl (by decide) (by omega) (fun kk => f57_l0 (PR (n + 1) AV) (n + 1) kk) (fun kk m a k i H => rfl) (fun a b H kk => f57_eq (n + 1) a b H kk)
def fdStringS : List FD := [⟨.str, [], 0⟩]
def mfStringS : List MF := fdStringS.map FD.f
theorem mk_StringS (n : Nat) (hn : 1048576 < n) : MarkOk (n + 2) 81 64 mfStringS :=
 mark_ok (n := n + 1) (tI := 3) (w := 1) (cty := [9]) (fds := fdStringS) rfl rfl (mk_txt n hn) ⟨rfl, trivial, trivial⟩ rfl ⟨_, _, rfl, rfl, rfl, rfl⟩ (by omega) (fun β kk => f81_l0 (PR (n + 1) β) (n + 1) kk) (fun β kk m a k i H => rfl) (fun β a b H kk => f81_eq (n + 1) a b H kk)
theorem hd_StringS (n : Nat) (hn : 1048576 < n) : HeldOk (n + 2) 84 mfStringS :=
 held_ok (n := n + 1) (tI := 3) (w := 1) (fds := fdStringS) rfl (mk_txt n hn) ⟨rfl, trivial, trivial⟩ rfl (by decide) (by omega) (fun kk => f84_l0 (PR (n + 1) AV) (n + 1) kk) (fun kk m a k i H => rfl) (fun a b H kk => f84_eq (n + 1) a b H kk)
theorem wf_bytes (s : ByteArray) (h : s.size ≤ 1048576) : wfF (.sub mfByteS) (bytesC s) := by
 refine ⟨h, by rw [bytesAV_len]; show _ = s.size * 1; omega, ?_⟩
 have key : ∀ l : List UInt8, wfL (repF l.length mfByteS) (l.map fun b => .sc (.int .u8 b.toNat)) := by
  intro l
  induction l with
  | nil => rfl
  | cons b l ih =>
   rw [List.length_cons, repF_succ, List.map_cons]
   exact wfL_cons.2 ⟨trivial, ih⟩
 have := key s.data.toList
 rwa [show s.data.toList.length = s.size by simp] at this
theorem cnt_flat (f : MF) (e : α → Value) (h : ∀ x, cntF f (.sc (e x)) = 1) : ∀ l : List α, cntL (repF l.length [f]) (l.map fun x => .sc (e x)) = l.length
 | [] => rfl
 | x :: l => by
  rw [List.length_cons, repF_succ, List.map_cons]
  show cntF f (.sc (e x)) + cntL (repF l.length [f]) _ = _
  rw [h, cnt_flat f e h l]
  omega
theorem cnt_bytes (s : ByteArray) : cntF (.sub mfByteS) (bytesC s) = s.size := by
 have := cnt_flat .byt (fun b : UInt8 => .int .u8 b.toNat) (fun _ => rfl) s.data.toList
 rw [show s.data.toList.length = s.size by simp] at this
 exact this
theorem wf_ints (l : List Int) (h : l.length ≤ 1048576) : wfF (.sub mfIntS) (intsC l) := by
 refine ⟨h, by simp [mfIntS, fdIntS], ?_⟩
 clear h
 induction l with
 | nil => rfl
 | cons b l ih =>
  rw [List.length_cons, repF_succ, List.map_cons]
  exact wfL_cons.2 ⟨trivial, ih⟩
theorem cnt_ints (l : List Int) : cntF (.sub mfIntS) (intsC l) = l.length := cnt_flat .int (fun z : Int => .int .i64 z) (fun _ => rfl) l
theorem wf_strs (l : List ByteArray) (h : l.length ≤ 1048576) : wfF (.sub mfStringS) (strsC l) := by
 refine ⟨h, by simp [mfStringS, fdStringS], ?_⟩
 clear h
 induction l with
 | nil => rfl
 | cons b l ih =>
  rw [List.length_cons, repF_succ, List.map_cons]
  exact wfL_cons.2 ⟨trivial, ih⟩
theorem cnt_strs (l : List ByteArray) : cntF (.sub mfStringS) (strsC l) = l.length := cnt_flat .str (fun z : ByteArray => .string z) (fun _ => rfl) l
theorem smwS {wt : α → Nat} (sm : α → Prop) (hs : ∀ x, wt x ≤ 1048576 → sm x) (l : List α) (h : wtL wt l ≤ 1048576) : l.length ≤ 1048576 ∧ ∀ y ∈ l, sm y := by
 have h1 := wtL_eq wt l
 refine ⟨by omega, fun y hy => hs y ?_⟩
 have h2 := wtS_mem (wt := wt) hy
 omega
theorem wf_rows {enc : α → List AV} {fs : List MF} (l : List α) (h : l.length ≤ 1048576) (hw : ∀ x ∈ l, wfL fs (enc x)) : wfF (.sub fs) (rowsC enc l) := by
 have key : ∀ l : List α, (∀ x ∈ l, wfL fs (enc x)) → (l.map enc).flatten.length = l.length * fs.length ∧ wfL (repF l.length fs) (l.map enc).flatten := by
  intro l
  induction l with
  | nil => intro _; exact ⟨by simp, rfl⟩
  | cons x l ih =>
   intro hw
   obtain ⟨h1, h2⟩ := ih fun y hy => hw y (List.mem_cons_of_mem _ hy)
   have hx := hw x List.mem_cons_self
   have hl := wfL_len hx
   rw [List.map_cons, List.flatten_cons, List.length_cons, repF_succ]
   exact ⟨by rw [List.length_append, h1, ← hl, Nat.succ_mul]; omega, (wfL_append hl).2 ⟨hx, h2⟩⟩
 obtain ⟨h1, h2⟩ := key l hw
 exact ⟨h, h1, h2⟩
theorem cnt_rows {enc : α → List AV} {fs : List MF} {wt : α → Nat} : ∀ (l : List α), (∀ x ∈ l, fs.length = (enc x).length) → (∀ x ∈ l, cntL fs (enc x) ≤ 64 * (1 + wt x)) → cntF (.sub fs) (rowsC enc l) ≤ 64 * wtL wt l
 | [], _, _ => Nat.zero_le _
 | x :: l, hl, h => by
  have ih := cnt_rows l (fun y hy => hl y (List.mem_cons_of_mem _ hy)) (fun y hy => h y (List.mem_cons_of_mem _ hy))
  have hx := h x List.mem_cons_self
  show cntL (repF (l.length + 1) fs) (enc x ++ (l.map enc).flatten) ≤ _
  rw [repF_succ, cntL_append _ _ _ _ (hl x List.mem_cons_self), wtL]
  have ih : cntL (repF l.length fs) (l.map enc).flatten ≤ 64 * wtL wt l := ih
  omega
def fdMsgS : List FD := [⟨.str, [0], 0⟩, ⟨.sub mfByteS, [1], 64⟩, ⟨.int, [2], 0⟩, ⟨.bool, [3], 0⟩]
def fhMsgS : List FD := [⟨.str, [0], 0⟩, ⟨.sub mfByteS, [1], 82⟩, ⟨.int, [2], 0⟩, ⟨.bool, [3], 0⟩]
def mfMsgS : List MF := fdMsgS.map FD.f
def smMsg (x : MsgV) : Prop := x.fBody.size ≤ 1048576 ∧ True
theorem mk_MsgS (n : Nat) (hn : 1048576 < n) : MarkOk (n + 3) 78 31 mfMsgS :=
 mark_ok (n := n + 2) (tI := 3) (w := 4) (cty := ctyMsg) (fds := fdMsgS) rfl rfl (mk_txt (n + 1) (by omega)) ⟨rfl, trivial, ⟨rfl, mk_ByteS (n + 0) (by omega), ⟨rfl, trivial, ⟨rfl, trivial, trivial⟩⟩⟩⟩ rfl ⟨_, _, rfl, rfl, rfl, rfl⟩ (by omega) (fun β kk => f78_l0 (PR (n + 2) β) (n + 2) kk) (fun β kk m a k i H => rfl) (fun β a b H kk => f78_eq (n + 2) a b H kk)
theorem smwMsg (x : MsgV) (h : wtMsg x ≤ 1048576) : smMsg x := by
 have h0 := h
 unfold wtMsg at h0
 exact ⟨by omega, trivial⟩
theorem wfMsg (x : MsgV) (h : smMsg x) : wfL mfMsgS (encMsg x) := by
 obtain ⟨h0, _⟩ := h
 exact wfL_cons.2 ⟨trivial, wfL_cons.2 ⟨wf_bytes _ h0, wfL_cons.2 ⟨trivial, wfL_cons.2 ⟨trivial, rfl⟩⟩⟩⟩
theorem cntMsg (x : MsgV) : cntL mfMsgS (encMsg x) ≤ 64 * (1 + wtMsg x) := by
 have c0 := cnt_bytes x.fBody
 show 1 + (cntF (.sub mfByteS) (bytesC x.fBody) + (1 + (1 + 0))) ≤ _
 unfold wtMsg
 omega
def fdFlightS : List FD := [⟨.int, [0], 0⟩, ⟨.str, [1, 0], 0⟩, ⟨.sub mfByteS, [1, 1], 64⟩, ⟨.int, [1, 2], 0⟩, ⟨.bool, [1, 3], 0⟩, ⟨.int, [5], 0⟩]
def fhFlightS : List FD := [⟨.int, [0], 0⟩, ⟨.str, [1, 0], 0⟩, ⟨.sub mfByteS, [1, 1], 82⟩, ⟨.int, [1, 2], 0⟩, ⟨.bool, [1, 3], 0⟩, ⟨.int, [5], 0⟩]
def mfFlightS : List MF := fdFlightS.map FD.f
def smFlight (x : FlightV) : Prop := x.fM.fBody.size ≤ 1048576 ∧ True
theorem mk_FlightS (n : Nat) (hn : 1048576 < n) : MarkOk (n + 3) 77 30 mfFlightS :=
 mark_ok (n := n + 2) (tI := 3) (w := 6) (cty := ctyFlight) (fds := fdFlightS) rfl rfl (mk_txt (n + 1) (by omega)) ⟨rfl, trivial, ⟨rfl, trivial, ⟨rfl, mk_ByteS (n + 0) (by omega), ⟨rfl, trivial, ⟨rfl, trivial, ⟨rfl, trivial, trivial⟩⟩⟩⟩⟩⟩ rfl ⟨_, _, rfl, rfl, rfl, rfl⟩ (by omega) (fun β kk => f77_l0 (PR (n + 2) β) (n + 2) kk) (fun β kk m a k i H => rfl) (fun β a b H kk => f77_eq (n + 2) a b H kk)
theorem smwFlight (x : FlightV) (h : wtFlight x ≤ 1048576) : smFlight x := by
 have h0 := h
 unfold wtFlight wtMsg at h0
 exact ⟨by omega, trivial⟩
theorem wfFlight (x : FlightV) (h : smFlight x) : wfL mfFlightS (encFlight x) := by
 obtain ⟨h0, _⟩ := h
 exact wfL_cons.2 ⟨trivial, wfL_cons.2 ⟨trivial, wfL_cons.2 ⟨wf_bytes _ h0, wfL_cons.2 ⟨trivial, wfL_cons.2 ⟨trivial, wfL_cons.2 ⟨trivial, rfl⟩⟩⟩⟩⟩⟩
theorem cntFlight (x : FlightV) : cntL mfFlightS (encFlight x) ≤ 64 * (1 + wtFlight x) := by
 have c0 := cnt_bytes x.fM.fBody
 show 1 + (1 + (cntF (.sub mfByteS) (bytesC x.fM.fBody) + (1 + (1 + (1 + 0))))) ≤ _
 unfold wtFlight wtMsg
 omega
def fdOutS : List FD := [⟨.int, [0], 0⟩, ⟨.sub mfFlightS, [1], 77⟩, ⟨.sub mfMsgS, [2], 78⟩]
def fhOutS : List FD := [⟨.int, [0], 0⟩, ⟨.sub mfFlightS, [1], 95⟩, ⟨.sub mfMsgS, [2], 96⟩]
def mfOutS : List MF := fdOutS.map FD.f
def smOut (x : OutV) : Prop := (x.fFl.length ≤ 1048576 ∧ ∀ y ∈ x.fFl, smFlight y) ∧ (x.fQ.length ≤ 1048576 ∧ ∀ y ∈ x.fQ, smMsg y) ∧ True
theorem smwOut (x : OutV) (h : wtOut x ≤ 1048576) : smOut x := by
 have e0 := wtL_eq wtFlight x.fFl
 have e1 := wtL_eq wtMsg x.fQ
 have h0 := h
 unfold wtOut at h0
 exact ⟨smwS smFlight smwFlight _ (by omega), smwS smMsg smwMsg _ (by omega), trivial⟩
theorem wfOut (x : OutV) (h : smOut x) : wfL mfOutS (encOut x) := by
 obtain ⟨h0, h1, _⟩ := h
 exact wfL_cons.2 ⟨trivial, wfL_cons.2 ⟨wf_rows _ h0.1 fun y hy => wfFlight y (h0.2 y hy), wfL_cons.2 ⟨wf_rows _ h1.1 fun y hy => wfMsg y (h1.2 y hy), rfl⟩⟩⟩
theorem cntOut (x : OutV) : cntL mfOutS (encOut x) ≤ 64 * (1 + wtOut x) := by
 have c0 := cnt_rows (fs := mfFlightS) (wt := wtFlight) x.fFl (fun y _ => rfl) (fun y _ => cntFlight y)
 have c1 := cnt_rows (fs := mfMsgS) (wt := wtMsg) x.fQ (fun y _ => rfl) (fun y _ => cntMsg y)
 show 1 + (cntF (.sub mfFlightS) (rowsC encFlight x.fFl) + (cntF (.sub mfMsgS) (rowsC encMsg x.fQ) + 0)) ≤ _
 unfold wtOut
 omega
def fvOut : List FV := [.skip, .sub mfFlightS [1] 77, .sub mfMsgS [2] 78]
def fwOut : List FV := [.skip, .sub mfFlightS [1] 95, .sub mfMsgS [2] 96]
def mvOut : List MF := flatV fvOut
theorem wfvOut (x : OutV) (h : smOut x) : wfL mvOut (encOut x) := by
 obtain ⟨h0, h1, _⟩ := h
 exact wfL_cons.2 ⟨rfl, wfL_cons.2 ⟨wf_rows _ h0.1 fun y hy => wfFlight y (h0.2 y hy), wfL_cons.2 ⟨wf_rows _ h1.1 fun y hy => wfMsg y (h1.2 y hy), rfl⟩⟩⟩
theorem cntvOut (x : OutV) : cntL mvOut (encOut x) ≤ 64 * wtOut x := by
 have c0 := cnt_rows (fs := mfFlightS) (wt := wtFlight) x.fFl (fun y _ => rfl) (fun y _ => cntFlight y)
 have c1 := cnt_rows (fs := mfMsgS) (wt := wtMsg) x.fQ (fun y _ => rfl) (fun y _ => cntMsg y)
 show 0 + (cntF (.sub mfFlightS) (rowsC encFlight x.fFl) + (cntF (.sub mfMsgS) (rowsC encMsg x.fQ) + 0)) ≤ _
 unfold wtOut
 omega
theorem lf_Out : ∀ (cs : List AV) (N : Nat), wfL mvOut cs → (instL ti0 E0.tp N ctyOut cs).1.all isLeaf = true := fun cs N h => instL_leaf _ _ _ (wfv_fl cs mvOut h rfl)
theorem mk_OutV (n : Nat) (hn : 1048576 < n) : MarkV (n + 4) 31 ctyOut mvOut :=
 markv_ok (n := n + 3) (tI := 3) (fvs := fvOut) rfl rfl ⟨rfl, mk_FlightS (n + 0) (by omega), ⟨rfl, mk_MsgS (n + 0) (by omega), trivial⟩⟩ rfl lf_Out (fun β a b H kk => f31_eq (n + 3) a b H kk)
def fdWantS : List FD := [⟨.str, [0], 0⟩, ⟨.int, [1], 0⟩]
def fhWantS : List FD := [⟨.str, [0], 0⟩, ⟨.int, [1], 0⟩]
def mfWantS : List MF := fdWantS.map FD.f
def smWant (x : WantV) : Prop := True
theorem mk_WantS (n : Nat) (hn : 1048576 < n) : MarkOk (n + 2) 80 63 mfWantS :=
 mark_ok (n := n + 1) (tI := 3) (w := 2) (cty := ctyWant) (fds := fdWantS) rfl rfl (mk_txt (n + 0) (by omega)) ⟨rfl, trivial, ⟨rfl, trivial, trivial⟩⟩ rfl ⟨_, _, rfl, rfl, rfl, rfl⟩ (by omega) (fun β kk => f80_l0 (PR (n + 1) β) (n + 1) kk) (fun β kk m a k i H => rfl) (fun β a b H kk => f80_eq (n + 1) a b H kk)
theorem hd_WantS (n : Nat) (hn : 1048576 < n) : HeldOk (n + 2) 83 mfWantS :=
 held_ok (n := n + 1) (tI := 3) (w := 2) (fds := fhWantS) rfl (mk_txt (n + 0) (by omega)) ⟨rfl, trivial, ⟨rfl, trivial, trivial⟩⟩ rfl (by decide) (by omega) (fun kk => f83_l0 (PR (n + 1) AV) (n + 1) kk) (fun kk m a k i H => rfl) (fun a b H kk => f83_eq (n + 1) a b H kk)
theorem smwWant (x : WantV) (h : wtWant x ≤ 1048576) : smWant x := by
 have h0 := h
 unfold wtWant at h0
 exact trivial
theorem wfWant (x : WantV) (h : smWant x) : wfL mfWantS (encWant x) := by
 exact wfL_cons.2 ⟨trivial, wfL_cons.2 ⟨trivial, rfl⟩⟩
theorem cntWant (x : WantV) : cntL mfWantS (encWant x) ≤ 64 * (1 + wtWant x) := by
 show 1 + (1 + 0) ≤ _
 unfold wtWant
 omega
def fdPacketS : List FD := [⟨.int, [0], 0⟩, ⟨.bool, [1], 0⟩, ⟨.int, [2], 0⟩, ⟨.bool, [3], 0⟩, ⟨.int, [4], 0⟩, ⟨.str, [5], 0⟩, ⟨.sub mfByteS, [6], 64⟩, ⟨.str, [7], 0⟩, ⟨.int, [8], 0⟩, ⟨.bool, [9], 0⟩, ⟨.int, [10], 0⟩, ⟨.bool, [11], 0⟩, ⟨.str, [12], 0⟩, ⟨.sub mfByteS, [13], 64⟩, ⟨.int, [14], 0⟩, ⟨.bool, [15], 0⟩, ⟨.bool, [16], 0⟩, ⟨.str, [17], 0⟩, ⟨.bool, [18], 0⟩, ⟨.sub mfByteS, [19], 64⟩, ⟨.int, [20], 0⟩, ⟨.bool, [21], 0⟩, ⟨.sub mfWantS, [22], 80⟩, ⟨.sub mfStringS, [23], 81⟩, ⟨.sub mfIntS, [24], 56⟩]
def fhPacketS : List FD := [⟨.int, [0], 0⟩, ⟨.bool, [1], 0⟩, ⟨.int, [2], 0⟩, ⟨.bool, [3], 0⟩, ⟨.int, [4], 0⟩, ⟨.str, [5], 0⟩, ⟨.sub mfByteS, [6], 82⟩, ⟨.str, [7], 0⟩, ⟨.int, [8], 0⟩, ⟨.bool, [9], 0⟩, ⟨.int, [10], 0⟩, ⟨.bool, [11], 0⟩, ⟨.str, [12], 0⟩, ⟨.sub mfByteS, [13], 82⟩, ⟨.int, [14], 0⟩, ⟨.bool, [15], 0⟩, ⟨.bool, [16], 0⟩, ⟨.str, [17], 0⟩, ⟨.bool, [18], 0⟩, ⟨.sub mfByteS, [19], 82⟩, ⟨.int, [20], 0⟩, ⟨.bool, [21], 0⟩, ⟨.sub mfWantS, [22], 83⟩, ⟨.sub mfStringS, [23], 84⟩, ⟨.sub mfIntS, [24], 57⟩]
def mfPacketS : List MF := fdPacketS.map FD.f
def smPacket (x : PacketV) : Prop := x.fBody.size ≤ 1048576 ∧ x.fWBody.size ≤ 1048576 ∧ x.fPass.size ≤ 1048576 ∧ (x.fWants.length ≤ 1048576 ∧ ∀ y ∈ x.fWants, smWant y) ∧ x.fNames.length ≤ 1048576 ∧ x.fCodes.length ≤ 1048576 ∧ True
theorem mk_PacketS (n : Nat) (hn : 1048576 < n) : MarkOk (n + 3) 32 55 mfPacketS :=
 mark_ok (n := n + 2) (tI := 3) (w := 25) (cty := ctyPacket) (fds := fdPacketS) rfl rfl (mk_txt (n + 1) (by omega)) ⟨rfl, trivial, ⟨rfl, trivial, ⟨rfl, trivial, ⟨rfl, trivial, ⟨rfl, trivial, ⟨rfl, trivial, ⟨rfl, mk_ByteS (n + 0) (by omega), ⟨rfl, trivial, ⟨rfl, trivial, ⟨rfl, trivial, ⟨rfl, trivial, ⟨rfl, trivial, ⟨rfl, trivial, ⟨rfl, mk_ByteS (n + 0) (by omega), ⟨rfl, trivial, ⟨rfl, trivial, ⟨rfl, trivial, ⟨rfl, trivial, ⟨rfl, trivial, ⟨rfl, mk_ByteS (n + 0) (by omega), ⟨rfl, trivial, ⟨rfl, trivial, ⟨rfl, mk_WantS (n + 0) (by omega), ⟨rfl, mk_StringS (n + 0) (by omega), ⟨rfl, mk_IntS (n + 0) (by omega), trivial⟩⟩⟩⟩⟩⟩⟩⟩⟩⟩⟩⟩⟩⟩⟩⟩⟩⟩⟩⟩⟩⟩⟩⟩⟩ rfl ⟨_, _, rfl, rfl, rfl, rfl⟩ (by omega) (fun β kk => f32_l0 (PR (n + 2) β) (n + 2) kk) (fun β kk m a k i H => rfl) (fun β a b H kk => f32_eq (n + 2) a b H kk)
theorem hd_PacketS (n : Nat) (hn : 1048576 < n) : HeldOk (n + 3) 33 mfPacketS :=
 held_ok (n := n + 2) (tI := 3) (w := 25) (fds := fhPacketS) rfl (mk_txt (n + 1) (by omega)) ⟨rfl, trivial, ⟨rfl, trivial, ⟨rfl, trivial, ⟨rfl, trivial, ⟨rfl, trivial, ⟨rfl, trivial, ⟨rfl, hd_ByteS (n + 0) (by omega), ⟨rfl, trivial, ⟨rfl, trivial, ⟨rfl, trivial, ⟨rfl, trivial, ⟨rfl, trivial, ⟨rfl, trivial, ⟨rfl, hd_ByteS (n + 0) (by omega), ⟨rfl, trivial, ⟨rfl, trivial, ⟨rfl, trivial, ⟨rfl, trivial, ⟨rfl, trivial, ⟨rfl, hd_ByteS (n + 0) (by omega), ⟨rfl, trivial, ⟨rfl, trivial, ⟨rfl, hd_WantS (n + 0) (by omega), ⟨rfl, hd_StringS (n + 0) (by omega), ⟨rfl, hd_IntS (n + 0) (by omega), trivial⟩⟩⟩⟩⟩⟩⟩⟩⟩⟩⟩⟩⟩⟩⟩⟩⟩⟩⟩⟩⟩⟩⟩⟩⟩ rfl (by decide) (by omega) (fun kk => f33_l0 (PR (n + 2) AV) (n + 2) kk) (fun kk m a k i H => rfl) (fun a b H kk => f33_eq (n + 2) a b H kk)
theorem smwPacket (x : PacketV) (h : wtPacket x ≤ 1048576) : smPacket x := by
 have e3 := wtL_eq wtWant x.fWants
 have e4 := wtL_eq ByteArray.size x.fNames
 have h0 := h
 unfold wtPacket at h0
 exact ⟨by omega, by omega, by omega, smwS smWant smwWant _ (by omega), by omega, by omega, trivial⟩
theorem wfPacket (x : PacketV) (h : smPacket x) : wfL mfPacketS (encPacket x) := by
 obtain ⟨h0, h1, h2, h3, h4, h5, _⟩ := h
 exact wfL_cons.2 ⟨trivial, wfL_cons.2 ⟨trivial, wfL_cons.2 ⟨trivial, wfL_cons.2 ⟨trivial, wfL_cons.2 ⟨trivial, wfL_cons.2 ⟨trivial, wfL_cons.2 ⟨wf_bytes _ h0, wfL_cons.2 ⟨trivial, wfL_cons.2 ⟨trivial, wfL_cons.2 ⟨trivial, wfL_cons.2 ⟨trivial, wfL_cons.2 ⟨trivial, wfL_cons.2 ⟨trivial, wfL_cons.2 ⟨wf_bytes _ h1, wfL_cons.2 ⟨trivial, wfL_cons.2 ⟨trivial, wfL_cons.2 ⟨trivial, wfL_cons.2 ⟨trivial, wfL_cons.2 ⟨trivial, wfL_cons.2 ⟨wf_bytes _ h2, wfL_cons.2 ⟨trivial, wfL_cons.2 ⟨trivial, wfL_cons.2 ⟨wf_rows _ h3.1 fun y hy => wfWant y (h3.2 y hy), wfL_cons.2 ⟨wf_strs _ h4, wfL_cons.2 ⟨wf_ints _ h5, rfl⟩⟩⟩⟩⟩⟩⟩⟩⟩⟩⟩⟩⟩⟩⟩⟩⟩⟩⟩⟩⟩⟩⟩⟩⟩
theorem cntPacket (x : PacketV) : cntL mfPacketS (encPacket x) ≤ 64 * (1 + wtPacket x) := by
 have c0 := cnt_bytes x.fBody
 have c1 := cnt_bytes x.fWBody
 have c2 := cnt_bytes x.fPass
 have c3 := cnt_rows (fs := mfWantS) (wt := wtWant) x.fWants (fun y _ => rfl) (fun y _ => cntWant y)
 have c4 := cnt_strs x.fNames
 have c5 := cnt_ints x.fCodes
 have e4 := wtL_eq ByteArray.size x.fNames
 obtain ⟨u, hu⟩ : ∃ u : Nat, u = 1 := ⟨_, rfl⟩
 have cE : cntL mfPacketS (encPacket x) = u + (u + (u + (u + (u + (u + (cntF (.sub mfByteS) (bytesC x.fBody) + (u + (u + (u + (u + (u + (u + (cntF (.sub mfByteS) (bytesC x.fWBody) + (u + (u + (u + (u + (u + (cntF (.sub mfByteS) (bytesC x.fPass) + (u + (u + (cntF (.sub mfWantS) (rowsC encWant x.fWants) + (cntF (.sub mfStringS) (strsC x.fNames) + (cntF (.sub mfIntS) (intsC x.fCodes) + 0)))))))))))))))))))))))) := by
  subst hu
  exact cnt_cc rfl (cnt_cc rfl (cnt_cc rfl (cnt_cc rfl (cnt_cc rfl (cnt_cc rfl (cnt_cc rfl (cnt_cc rfl (cnt_cc rfl (cnt_cc rfl (cnt_cc rfl (cnt_cc rfl (cnt_cc rfl (cnt_cc rfl (cnt_cc rfl (cnt_cc rfl (cnt_cc rfl (cnt_cc rfl (cnt_cc rfl (cnt_cc rfl (cnt_cc rfl (cnt_cc rfl (cnt_cc rfl (cnt_cc rfl (cnt_cc rfl (rfl)))))))))))))))))))))))))
 rw [cE]
 clear cE
 generalize cntF (.sub mfByteS) (bytesC x.fBody) = a0 at c0 ⊢
 generalize cntF (.sub mfByteS) (bytesC x.fWBody) = a1 at c1 ⊢
 generalize cntF (.sub mfByteS) (bytesC x.fPass) = a2 at c2 ⊢
 generalize cntF (.sub mfWantS) (rowsC encWant x.fWants) = a3 at c3 ⊢
 generalize cntF (.sub mfStringS) (strsC x.fNames) = a4 at c4 ⊢
 generalize cntF (.sub mfIntS) (intsC x.fCodes) = a5 at c5 ⊢
 unfold wtPacket
 simp only [← Nat.add_assoc, Nat.add_zero, Nat.mul_add]
 omega
end Go.Proofs.YtejjggnchdldoaaGreatDoor.Abs
set_option linter.unusedVariables false
set_option linter.unusedSimpArgs false
set_option maxRecDepth 100000
set_option maxHeartbeats 3200000
namespace Go.Proofs.YtejjggnchdldoaaGreatDoor.Abs
open Go
def pkId (t i : Int) : PacketV := ⟨t, false, 0, false, i, ⟨#[]⟩, ⟨#[]⟩, ⟨#[]⟩, 0, false, 0, false, ⟨#[]⟩, ⟨#[]⟩, 0, false, false, ⟨#[]⟩, false, ⟨#[]⟩, 0, false, [], [], []⟩
def vRel (i : Int) : PacketV := if vIn i 1 65535 = true then pkId 6 i else pkt0
theorem same6 (pc : Bool) (i : Int) : vSamePacket (pkId 6 i) (vNamed pc (pkId 6 i)) = true := by
 simp [vSamePacket, vPkLists, vPkChain, vNamed, pktT, pkId, eqList, all2]
def vAg (f : FlightV) : PacketV := if f.fSt = 3 then vRel f.fId else vPub f.fM f.fId true
def vAgs (o : OutV) (l : List FlightV) : List PacketV := (l.filter fun _ => vOutOk o).map vAg
def vOutAgain (o : OutV) : List PacketV := vAgs o o.fFl
theorem vAgs_len (o : OutV) (l : List FlightV) : (vAgs o l).length ≤ l.length := by
 unfold vAgs
 rw [List.length_map]
 exact List.length_filter_le _ _
theorem vAgs_no (o : OutV) (l : List FlightV) (h : vOutOk o = false) : vAgs o l = [] := by
 unfold vAgs
 rw [List.filter_eq_nil_iff.2 (fun _ _ => by simp [h])]
 rfl
theorem flA_len (o : OutV) (b : wtOut o ≤ 1048576) : o.fFl.length ≤ 1048576 := (fl_hyp o b).1.1
theorem isId6F (n : Nat) (hn : 1048576 < n) (i : Int) : tree E0 (n + 2) 4 123 [.sc (.int .i64 i)] = some (.sc (.bool (vIn i 1 65535))) := by
 rw [tree_def, f123_eq, f123]
 refine tree_gd (G := (· = some (.sc (.bool (vIn i 1 65535))))) ?_
 try simp only [PR_box, PR_new, PR_newSl, PR_fadr, PR_load, PR_store, PR_bin, PR_binB, PR_binA, PR_un, PR_cond, PR_guard, PR_pick, PR_len, PR_lenS, PR_iadr, PR_idx, PR_slice, PR_sliceS, PR_fill, PR_make, PR_app, PR_appS, PR_cvI, PR_cvSS, PR_cvBS, PR_cvSB, PR_extr, PR_nil, PR_clear, PR_fld, PR_apart, PR_same]
 have s0 : Sep [] [] := sep_nil
 refine g_callS (v := (.bool (vIn i 1 65535))) s0 rfl (.cons .sc (.cons .sc (.cons .sc .nil))) (withinF n _ i 1 65535) ?_
 refine g_ret rfl ?_
 first | rfl | (simp_all; done)
theorem specOk6F (n : Nat) (hn : 1048576 < n) (i : Int) : tree E0 (n + 3) 4 121 [.agg (encPacket (pkId 6 i))] = some (.sc (.bool (vIn i 1 65535))) := by
 rw [tree_def, f121_eq, f121]
 refine tree_gd (G := (· = some (.sc (.bool (vIn i 1 65535))))) ?_
 try simp only [PR_box, PR_new, PR_newSl, PR_fadr, PR_load, PR_store, PR_bin, PR_binB, PR_binA, PR_un, PR_cond, PR_guard, PR_pick, PR_len, PR_lenS, PR_iadr, PR_idx, PR_slice, PR_sliceS, PR_fill, PR_make, PR_app, PR_appS, PR_cvI, PR_cvSS, PR_cvBS, PR_cvSB, PR_extr, PR_nil, PR_clear, PR_fld, PR_apart, PR_same]
 have s0 : Sep [] [] := sep_nil
 refine g_box s0 (cells_fl (flPacket _)) fun i1 H s2 => ?_
 refine g_fadr (o' := 0) rfl ?_
 refine g_ld (c := .sc (.int .i64 ((pkId 6 i).fType))) s2 (.here) rfl ?_
 refine g_callS (v := (.bool (vIn ((pkId 6 i).fType) 1 14))) s2 rfl (.cons .sc (.cons .sc (.cons .sc .nil))) (l1InF (n + 1) _ ((pkId 6 i).fType) 1 14) ?_
 refine g_not ?_
 refine g_gY (nF rfl) ?_
 refine g_ldW s2 (.here) rfl ?_
 refine Gd.bothE ?_ ?_
 ·refine g_gY (nF rfl) ?_
  refine g_ldW s2 (.here) rfl ?_
  refine g_gY (nF rfl) ?_
  refine g_hm rfl rfl ?_
  refine specNamedK (n + 1) (by omega) (pkId 6 i) s2 fun Rs3 H hRs3 s3 => ?_
  refine g_gY (nF rfl) ?_
  refine g_callS (v := (.bool (vSamePacket (pkId 6 i) (vNamed true (pkId 6 i))))) s3 rfl (.aggF (flPacket _) (.agg (hRs3 _) .nil)) (specSamePacketF n (by omega) _ (pkId 6 i) (vNamed true (pkId 6 i)) (Nat.zero_le _) (Nat.zero_le _) (Nat.zero_le _)) ?_
  refine g_gY (nF rfl) ?_
  refine g_not ?_
  refine g_pF (nF rfl) ?_
  refine g_cF (nF (same6 true i)) ?_
  refine g_fadr (o' := 4) rfl ?_
  refine g_ld (c := .sc (.int .i64 ((pkId 6 i).fId))) s3 (.here) rfl ?_
  refine g_callS (v := (.bool (vIn ((pkId 6 i).fId) 1 65535))) s3 rfl (.cons .sc (.cons .sc (.cons .sc .nil))) (l1InF (n + 1) _ ((pkId 6 i).fId) 1 65535) ?_
  refine g_fadr (o' := 0) rfl ?_
  refine g_ld (c := .sc (.int .i64 ((pkId 6 i).fType))) s3 (.here) rfl ?_
  refine g_eql ?_
  refine g_cF rfl ?_
  refine g_eql ?_
  refine g_cF rfl ?_
  refine g_eql ?_
  refine g_cF rfl ?_
  refine g_eql ?_
  refine g_letJ ?_
  refine g_cF rfl ?_
  refine g_eql ?_
  refine g_cF rfl ?_
  refine g_eql ?_
  refine g_cF rfl ?_
  refine g_eql ?_
  refine g_cF rfl ?_
  refine g_eql ?_
  refine g_cF rfl ?_
  refine g_eql ?_
  refine g_cF rfl ?_
  refine g_ret rfl ?_
  first | rfl | (simp_all; done)
 ·refine g_gY (nF rfl) ?_
  refine g_hm rfl rfl ?_
  refine specNamedK (n + 1) (by omega) (pkId 6 i) s2 fun Rs4 H hRs4 s4 => ?_
  refine g_gY (nF rfl) ?_
  refine g_ldW s4 (.here) rfl ?_
  refine g_gY (nF rfl) ?_
  refine g_callS (v := (.bool (vSamePacket (pkId 6 i) (vNamed true (pkId 6 i))))) s4 rfl (.aggF (flPacket _) (.agg (hRs4 _) .nil)) (specSamePacketF n (by omega) _ (pkId 6 i) (vNamed true (pkId 6 i)) (Nat.zero_le _) (Nat.zero_le _) (Nat.zero_le _)) ?_
  refine g_gY (nF rfl) ?_
  refine g_not ?_
  refine g_pF (nF rfl) ?_
  refine g_cF (nF (same6 true i)) ?_
  refine g_fadr (o' := 4) rfl ?_
  refine g_ld (c := .sc (.int .i64 ((pkId 6 i).fId))) s4 (.here) rfl ?_
  refine g_callS (v := (.bool (vIn ((pkId 6 i).fId) 1 65535))) s4 rfl (.cons .sc (.cons .sc (.cons .sc .nil))) (l1InF (n + 1) _ ((pkId 6 i).fId) 1 65535) ?_
  refine g_fadr (o' := 0) rfl ?_
  refine g_ld (c := .sc (.int .i64 ((pkId 6 i).fType))) s4 (.here) rfl ?_
  refine g_eql ?_
  refine g_cF rfl ?_
  refine g_eql ?_
  refine g_cF rfl ?_
  refine g_eql ?_
  refine g_cF rfl ?_
  refine g_eql ?_
  refine g_letJ ?_
  refine g_cF rfl ?_
  refine g_eql ?_
  refine g_cF rfl ?_
  refine g_eql ?_
  refine g_cF rfl ?_
  refine g_eql ?_
  refine g_cF rfl ?_
  refine g_eql ?_
  refine g_cF rfl ?_
  refine g_eql ?_
  refine g_cF rfl ?_
  refine g_ret rfl ?_
  first | rfl | (simp_all; done)
theorem specRelF (n : Nat) (hn : 1048576 < n) (i : Int) : tree E0 (n + 4) 66 68 [.sc (.int .i64 6), .sc (.int .i64 i)] = some (.agg (encPacket (vRel i))) := by
 rw [tree_def, f68_eq, f68]
 refine tree_gd (G := (· = some (.agg (encPacket (vRel i))))) ?_
 try simp only [PR_box, PR_new, PR_newSl, PR_fadr, PR_load, PR_store, PR_bin, PR_binB, PR_binA, PR_un, PR_cond, PR_guard, PR_pick, PR_len, PR_lenS, PR_iadr, PR_idx, PR_slice, PR_sliceS, PR_fill, PR_make, PR_app, PR_appS, PR_cvI, PR_cvSS, PR_cvBS, PR_cvSB, PR_extr, PR_nil, PR_clear, PR_fld, PR_apart, PR_same]
 have s0 : Sep [] [] := sep_nil
 refine g_new s0 fun i1 H s2 => ?_
 refine g_fill (cs := [.sc (.int .i64 6), .sc (.bool false), .sc (.int .i64 0), .sc (.bool false), .sc (.int .i64 i), .sc (.string (⟨#[]⟩)), .nl, .sc (.string (⟨#[]⟩)), .sc (.int .i64 0), .sc (.bool false), .sc (.int .i64 0), .sc (.bool false), .sc (.string (⟨#[]⟩)), .nl, .sc (.int .i64 0), .sc (.bool false), .sc (.bool false), .sc (.string (⟨#[]⟩)), .sc (.bool false), .nl, .sc (.int .i64 0), .sc (.bool false), .nl, .nl, .nl]) rfl ?_
 refine g_new s2 fun i3 H s4 => ?_
 refine g_st (cs' := [.sc (.int .i64 6), .sc (.bool false), .sc (.int .i64 0), .sc (.bool false), .sc (.int .i64 i), .sc (.string (⟨#[]⟩)), .nl, .sc (.string (⟨#[]⟩)), .sc (.int .i64 0), .sc (.bool false), .sc (.int .i64 0), .sc (.bool false), .sc (.string (⟨#[]⟩)), .nl, .sc (.int .i64 0), .sc (.bool false), .sc (.bool false), .sc (.string (⟨#[]⟩)), .sc (.bool false), .nl, .sc (.int .i64 0), .sc (.bool false), .nl, .nl, .nl]) s4 (.here) (cells_agg (lf_c rfl (lf_c rfl (lf_c rfl (lf_c rfl (lf_c rfl (lf_c rfl (lf_c rfl (lf_c rfl (lf_c rfl (lf_c rfl (lf_c rfl (lf_c rfl (lf_c rfl (lf_c rfl (lf_c rfl (lf_c rfl (lf_c rfl (lf_c rfl (lf_c rfl (lf_c rfl (lf_c rfl (lf_c rfl (lf_c rfl (lf_c rfl (lf_c rfl rfl)))))))))))))))))))))))))) rfl (Nat.le_of_ble_eq_true rfl) rfl fun H s5 => ?_
 refine g_callS (v := (.bool (vIn 6 4 7))) s5 rfl (.cons .sc (.cons .sc (.cons .sc .nil))) (l1InF (n + 2) _ 6 4 7) ?_
 refine g_not ?_
 refine g_gN (nF rfl) ?_
 refine g_gN (nF rfl) ?_
 refine g_pF (nF rfl) ?_
 refine g_gY rfl ?_
 refine g_ldW s5 (.here) rfl ?_
 refine g_gY rfl ?_
 refine g_callS (v := (.bool (vIn i 1 65535))) s5 rfl (.agg (.cons .sc (.cons .sc (.cons .sc (.cons .sc (.cons .sc (.cons .sc (.cons .nl (.cons .sc (.cons .sc (.cons .sc (.cons .sc (.cons .sc (.cons .sc (.cons .nl (.cons .sc (.cons .sc (.cons .sc (.cons .sc (.cons .sc (.cons .nl (.cons .sc (.cons .sc (.cons .nl (.cons .nl (.cons .nl .nil))))))))))))))))))))))))) .nil) (specOk6F n (by omega) i) ?_
 refine g_gY rfl ?_
 refine g_not ?_
 refine g_pF rfl ?_
 refine w_split ((vIn i 1 65535)) (fun h6 => ?_) (fun h6 => ?_)
 ·refine g_cF (nF h6) ?_
  refine g_ldW s5 (.here) rfl ?_
  refine g_st (cs' := [.sc (.int .i64 6), .sc (.bool false), .sc (.int .i64 0), .sc (.bool false), .sc (.int .i64 i), .sc (.string (⟨#[]⟩)), .nl, .sc (.string (⟨#[]⟩)), .sc (.int .i64 0), .sc (.bool false), .sc (.int .i64 0), .sc (.bool false), .sc (.string (⟨#[]⟩)), .nl, .sc (.int .i64 0), .sc (.bool false), .sc (.bool false), .sc (.string (⟨#[]⟩)), .sc (.bool false), .nl, .sc (.int .i64 0), .sc (.bool false), .nl, .nl, .nl]) s5 (.there (.here)) (cells_agg (lf_c rfl (lf_c rfl (lf_c rfl (lf_c rfl (lf_c rfl (lf_c rfl (lf_c rfl (lf_c rfl (lf_c rfl (lf_c rfl (lf_c rfl (lf_c rfl (lf_c rfl (lf_c rfl (lf_c rfl (lf_c rfl (lf_c rfl (lf_c rfl (lf_c rfl (lf_c rfl (lf_c rfl (lf_c rfl (lf_c rfl (lf_c rfl (lf_c rfl rfl)))))))))))))))))))))))))) rfl (Nat.le_of_ble_eq_true rfl) rfl fun H s7 => ?_
  refine g_ldW s7 (.here) rfl ?_
  refine g_ret (ret_agg s7 ⟨_, rfl, rfl⟩ (.sc (.sc (.sc (.sc (.sc (.sc (.nl (.sc (.sc (.sc (.sc (.sc (.sc (.nl (.sc (.sc (.sc (.sc (.sc (.nl (.sc (.sc (.nl (.nl (.nl .nil))))))))))))))))))))))))) ⟨trivial, ⟨trivial, ⟨trivial, ⟨trivial, ⟨trivial, ⟨trivial, ⟨(okNl ⟨_, _, rfl, rfl⟩), ⟨trivial, ⟨trivial, ⟨trivial, ⟨trivial, ⟨trivial, ⟨trivial, ⟨(okNl ⟨_, _, rfl, rfl⟩), ⟨trivial, ⟨trivial, ⟨trivial, ⟨trivial, ⟨trivial, ⟨(okNl ⟨_, _, rfl, rfl⟩), ⟨trivial, ⟨trivial, ⟨(okNl ⟨_, _, rfl, rfl⟩), ⟨(okNl ⟨_, _, rfl, rfl⟩), ⟨(okNl ⟨_, _, rfl, rfl⟩), trivial⟩⟩⟩⟩⟩⟩⟩⟩⟩⟩⟩⟩⟩⟩⟩⟩⟩⟩⟩⟩⟩⟩⟩⟩⟩) ?_
  have e8 : vRel i = (⟨6, false, 0, false, i, ⟨#[]⟩, ⟨#[]⟩, ⟨#[]⟩, 0, false, 0, false, ⟨#[]⟩, ⟨#[]⟩, 0, false, false, ⟨#[]⟩, false, ⟨#[]⟩, 0, false, [], [], []⟩ : PacketV) := by
   clear s0 s2 s4 s5 s7
   try simp only [decide_eq_true_eq, decide_eq_false_iff_not, bne_iff_ne, beq_iff_eq, beq_eq_false_iff_ne] at h6
   first | assumption | (simp only [vRel, pkId, pkt0, h6, if_true, if_false, Bool.false_eq_true]; first | done | rfl)
  rw [e8]
  first | done | rfl
 ·refine g_cT (nT h6) ?_
  refine g_fill (cs := [.sc (.int .i64 0), .sc (.bool false), .sc (.int .i64 0), .sc (.bool false), .sc (.int .i64 0), .sc (.string (⟨#[]⟩)), .nl, .sc (.string (⟨#[]⟩)), .sc (.int .i64 0), .sc (.bool false), .sc (.int .i64 0), .sc (.bool false), .sc (.string (⟨#[]⟩)), .nl, .sc (.int .i64 0), .sc (.bool false), .sc (.bool false), .sc (.string (⟨#[]⟩)), .sc (.bool false), .nl, .sc (.int .i64 0), .sc (.bool false), .nl, .nl, .nl]) rfl ?_
  refine g_st (cs' := [.sc (.int .i64 0), .sc (.bool false), .sc (.int .i64 0), .sc (.bool false), .sc (.int .i64 0), .sc (.string (⟨#[]⟩)), .nl, .sc (.string (⟨#[]⟩)), .sc (.int .i64 0), .sc (.bool false), .sc (.int .i64 0), .sc (.bool false), .sc (.string (⟨#[]⟩)), .nl, .sc (.int .i64 0), .sc (.bool false), .sc (.bool false), .sc (.string (⟨#[]⟩)), .sc (.bool false), .nl, .sc (.int .i64 0), .sc (.bool false), .nl, .nl, .nl]) s5 (.there (.here)) (cells_agg (lf_c rfl (lf_c rfl (lf_c rfl (lf_c rfl (lf_c rfl (lf_c rfl (lf_c rfl (lf_c rfl (lf_c rfl (lf_c rfl (lf_c rfl (lf_c rfl (lf_c rfl (lf_c rfl (lf_c rfl (lf_c rfl (lf_c rfl (lf_c rfl (lf_c rfl (lf_c rfl (lf_c rfl (lf_c rfl (lf_c rfl (lf_c rfl (lf_c rfl rfl)))))))))))))))))))))))))) rfl (Nat.le_of_ble_eq_true rfl) rfl fun H s9 => ?_
  refine g_ldW s9 (.here) rfl ?_
  refine g_ret (ret_agg s9 ⟨_, rfl, rfl⟩ (.sc (.sc (.sc (.sc (.sc (.sc (.nl (.sc (.sc (.sc (.sc (.sc (.sc (.nl (.sc (.sc (.sc (.sc (.sc (.nl (.sc (.sc (.nl (.nl (.nl .nil))))))))))))))))))))))))) ⟨trivial, ⟨trivial, ⟨trivial, ⟨trivial, ⟨trivial, ⟨trivial, ⟨(okNl ⟨_, _, rfl, rfl⟩), ⟨trivial, ⟨trivial, ⟨trivial, ⟨trivial, ⟨trivial, ⟨trivial, ⟨(okNl ⟨_, _, rfl, rfl⟩), ⟨trivial, ⟨trivial, ⟨trivial, ⟨trivial, ⟨trivial, ⟨(okNl ⟨_, _, rfl, rfl⟩), ⟨trivial, ⟨trivial, ⟨(okNl ⟨_, _, rfl, rfl⟩), ⟨(okNl ⟨_, _, rfl, rfl⟩), ⟨(okNl ⟨_, _, rfl, rfl⟩), trivial⟩⟩⟩⟩⟩⟩⟩⟩⟩⟩⟩⟩⟩⟩⟩⟩⟩⟩⟩⟩⟩⟩⟩⟩⟩) ?_
  have e10 : vRel i = (⟨0, false, 0, false, 0, ⟨#[]⟩, ⟨#[]⟩, ⟨#[]⟩, 0, false, 0, false, ⟨#[]⟩, ⟨#[]⟩, 0, false, false, ⟨#[]⟩, false, ⟨#[]⟩, 0, false, [], [], []⟩ : PacketV) := by
   clear s0 s2 s4 s5 s9
   try simp only [decide_eq_true_eq, decide_eq_false_iff_not, bne_iff_ne, beq_iff_eq, beq_eq_false_iff_ne] at h6
   first | assumption | (simp only [vRel, pkId, pkt0, h6, if_true, if_false, Bool.false_eq_true]; first | done | rfl)
  rw [e10]
  first | done | rfl
theorem specF_OutAgain_l0 (n : Nat) (hn : 1048576 < n) (x0 : OutV) (k0 : okOut x0) (b0 : wtOut x0 ≤ 1048576)   : ∀ (t pre : List FlightV) (m : Nat) (i : Int) (i1 : Nat) (a1 : AV) (H : Heap), x0.fFl = pre ++ t → i = ((pre.length : Nat) : Int) → t.length < m → isLeaf a1 = true → Sep H [.own a1 55 (rowsC encPacket (vAgs x0 pre)), .blk i1 (encOut x0) true] → Gd (· = some (rowsC encPacket (vOutAgain x0))) (f26_l0 (PR (n + 12) AV) (n + 12) (fun x H => ownTree ti0 E0.tp 55 H x) m (.ptr i1 0) (a1) (.sc (.int .i64 i)) H)
 | [], pre, m + 1, i, i1, a1, H, he, hi, hm, la1, s0 => by
  obtain rfl : pre = x0.fFl := by simpa using he.symm
  have hfl := flA_len x0 b0
  have hb : ∀ z ∈ x0.fFl, z.fM.fBody.size ≤ 1048576 := fun z hz => by have := (smwOut x0 b0).1.2 z hz; exact this.1
  have hag := vAgs_len x0 x0.fFl
  rw [f26_l0]
  try simp only [PR_box, PR_new, PR_newSl, PR_fadr, PR_load, PR_store, PR_bin, PR_binB, PR_binA, PR_un, PR_cond, PR_guard, PR_pick, PR_len, PR_lenS, PR_iadr, PR_idx, PR_slice, PR_sliceS, PR_fill, PR_make, PR_app, PR_appS, PR_cvI, PR_cvSS, PR_cvBS, PR_cvSB, PR_extr, PR_nil, PR_clear, PR_fld, PR_apart, PR_same]
  refine g_fadr (o' := 1) rfl ?_
  refine g_ld (c := rowsC encFlight x0.fFl) s0 (.there (.here)) rfl ?_
  refine g_len ?_
  refine g_lss ?_
  refine g_gN (by simp [hi]) ?_
  refine g_gN (by simp [hi]) ?_
  refine g_pF (by simp [hi]) ?_
  refine g_cF rfl ?_
  refine g_ret (ret_own s0 (.here)) ?_
  have e201 : vOutAgain x0 = (vAgs x0 x0.fFl) := by
   clear s0
   first | assumption | (simp only [vOutAgain, vAgs_no, if_true, if_false, Bool.false_eq_true]; first | done | rfl)
  rw [e201]
  first | done | rfl
 | y :: t, pre, m + 1, i, i1, a1, H, he, hi, hm, la1, s0 => by
  have hlt : pre.length < x0.fFl.length := by rw [he]; simp
  have hfl := flA_len x0 b0
  have hb : ∀ z ∈ x0.fFl, z.fM.fBody.size ≤ 1048576 := fun z hz => by have := (smwOut x0 b0).1.2 z hz; exact this.1
  have hag := vAgs_len x0 pre
  rw [f26_l0]
  try simp only [PR_box, PR_new, PR_newSl, PR_fadr, PR_load, PR_store, PR_bin, PR_binB, PR_binA, PR_un, PR_cond, PR_guard, PR_pick, PR_len, PR_lenS, PR_iadr, PR_idx, PR_slice, PR_sliceS, PR_fill, PR_make, PR_app, PR_appS, PR_cvI, PR_cvSS, PR_cvBS, PR_cvSB, PR_extr, PR_nil, PR_clear, PR_fld, PR_apart, PR_same]
  refine g_fadr (o' := 1) rfl ?_
  refine g_ld (c := rowsC encFlight x0.fFl) s0 (.there (.here)) rfl ?_
  refine g_len ?_
  refine g_lss ?_
  refine g_gY (by simp [hi]; omega) ?_
  refine g_ldW s0 (.there (.here)) rfl ?_
  refine g_gY (by simp [hi]; omega) ?_
  refine g_callS (v := (.bool (vOutOk x0))) s0 rfl (.aggF (flOut _) .nil) (specOutF (n + 2) (by omega) _ x0 b0) ?_
  refine g_pT (by simp [hi]; omega) ?_
  refine w_split ((vOutOk x0)) (fun h201 => ?_) (fun h201 => ?_)
  ·refine g_cT h201 ?_
   refine g_fadr (o' := 1) rfl ?_
   refine g_ld (c := rowsC encFlight x0.fFl) s0 (.there (.here)) rfl ?_
   refine g_iadr hi lenFlight (by decide) he ?_
   refine g_ldE (lenFlight _) ?_
   refine g_new s0 fun i202 H s203 => ?_
   refine g_st (cs' := encFlight y) s203 (.here) (cells_fl (flFlight _)) rfl (Nat.le_of_ble_eq_true rfl) rfl fun H s204 => ?_
   refine g_fadr (o' := 5) rfl ?_
   refine g_ld (c := .sc (.int .i64 y.fSt)) s204 (.here) rfl ?_
   refine g_eql ?_
   refine w_split ((decide (y.fSt = 3))) (fun h205 => ?_) (fun h205 => ?_)
   ·refine g_cT h205 ?_
    refine g_fadr (o' := 0) rfl ?_
    refine g_ld (c := .sc (.int .i64 y.fId)) s204 (.here) rfl ?_
    have c206 := specRelF (n + 8) (by omega) y.fId
    refine g_callA s204 rfl (.cons .sc (.cons .sc .nil)) (c206) ⟨_, rfl, rfl⟩ (insPacket (vRel y.fId)) ?_
    rintro _ _ H ⟨x207, x208, x209, x210, x211, x212, lx207, lx208, lx209, lx210, lx211, lx212, rfl, rfl⟩ s213
    simp only [List.nil_append, List.cons_append] at s213
    refine g_fill (cs := [.sc (.int .i64 ((vRel y.fId).fType)), .sc (.bool (vRel y.fId).fDup), .sc (.int .i64 ((vRel y.fId).fQos)), .sc (.bool (vRel y.fId).fRetain), .sc (.int .i64 ((vRel y.fId).fId)), .sc (.string ((vRel y.fId).fTopic)), x207, .sc (.string ((vRel y.fId).fClient)), .sc (.int .i64 ((vRel y.fId).fLevel)), .sc (.bool (vRel y.fId).fClean), .sc (.int .i64 ((vRel y.fId).fKeep)), .sc (.bool (vRel y.fId).fHasWill), .sc (.string ((vRel y.fId).fWTopic)), x208, .sc (.int .i64 ((vRel y.fId).fWQos)), .sc (.bool (vRel y.fId).fWRetain), .sc (.bool (vRel y.fId).fHasUser), .sc (.string ((vRel y.fId).fUser)), .sc (.bool (vRel y.fId).fHasPass), x209, .sc (.int .i64 ((vRel y.fId).fCode)), .sc (.bool (vRel y.fId).fPresent), x210, x211, x212]) (fill_c (z' := [.sc (.int .i64 ((vRel y.fId).fType)), .sc (.bool (vRel y.fId).fDup), .sc (.int .i64 ((vRel y.fId).fQos)), .sc (.bool (vRel y.fId).fRetain), .sc (.int .i64 ((vRel y.fId).fId)), .sc (.string ((vRel y.fId).fTopic)), x207, .sc (.string ((vRel y.fId).fClient)), .sc (.int .i64 ((vRel y.fId).fLevel)), .sc (.bool (vRel y.fId).fClean), .sc (.int .i64 ((vRel y.fId).fKeep)), .sc (.bool (vRel y.fId).fHasWill), .sc (.string ((vRel y.fId).fWTopic)), x208, .sc (.int .i64 ((vRel y.fId).fWQos)), .sc (.bool (vRel y.fId).fWRetain), .sc (.bool (vRel y.fId).fHasUser), .sc (.string ((vRel y.fId).fUser)), .sc (.bool (vRel y.fId).fHasPass), x209, .sc (.int .i64 ((vRel y.fId).fCode)), .sc (.bool (vRel y.fId).fPresent), x210, x211, x212]) (cells_agg (lf_c rfl (lf_c rfl (lf_c rfl (lf_c rfl (lf_c rfl (lf_c rfl (lf_c lx207 (lf_c rfl (lf_c rfl (lf_c rfl (lf_c rfl (lf_c rfl (lf_c rfl (lf_c lx208 (lf_c rfl (lf_c rfl (lf_c rfl (lf_c rfl (lf_c rfl (lf_c lx209 (lf_c rfl (lf_c rfl (lf_c lx210 (lf_c lx211 (lf_c lx212 rfl)))))))))))))))))))))))))) rfl (Nat.le_of_ble_eq_true rfl) rfl (rfl)) ?_
    refine g_newSl s213 fun i214 H s215 => ?_
    refine g_appR (cty := [3, 4, 3, 4, 3, 9, 43, 9, 3, 4, 3, 4, 9, 43, 3, 4, 4, 9, 4, 43, 3, 4, 63, 64, 26]) (e := (⟨(vRel y.fId).fType, (vRel y.fId).fDup, (vRel y.fId).fQos, (vRel y.fId).fRetain, (vRel y.fId).fId, (vRel y.fId).fTopic, (vRel y.fId).fBody, (vRel y.fId).fClient, (vRel y.fId).fLevel, (vRel y.fId).fClean, (vRel y.fId).fKeep, (vRel y.fId).fHasWill, (vRel y.fId).fWTopic, (vRel y.fId).fWBody, (vRel y.fId).fWQos, (vRel y.fId).fWRetain, (vRel y.fId).fHasUser, (vRel y.fId).fUser, (vRel y.fId).fHasPass, (vRel y.fId).fPass, (vRel y.fId).fCode, (vRel y.fId).fPresent, ((vRel y.fId).fWants), (vRel y.fId).fNames, (vRel y.fId).fCodes⟩ : PacketV)) s215 ⟨_, _, rfl, rfl, rfl, rfl⟩ (.there (.there (.there (.there (.there (.there (.there (.there (.here))))))))) (.here) rfl (lf_c rfl (lf_c rfl (lf_c rfl (lf_c rfl (lf_c rfl (lf_c rfl (lf_c lx207 (lf_c rfl (lf_c rfl (lf_c rfl (lf_c rfl (lf_c rfl (lf_c rfl (lf_c lx208 (lf_c rfl (lf_c rfl (lf_c rfl (lf_c rfl (lf_c rfl (lf_c lx209 (lf_c rfl (lf_c rfl (lf_c lx210 (lf_c lx211 (lf_c lx212 rfl))))))))))))))))))))))))) (.sc (.sc (.sc (.sc (.sc (.sc (.own (.there (.there (.there (.there (.there (.here)))))) (.sc (.sc (.sc (.sc (.sc (.sc (.own (.there (.there (.there (.there (.here))))) (.sc (.sc (.sc (.sc (.sc (.own (.there (.there (.there (.here)))) (.sc (.sc (.own (.there (.there (.here))) (.own (.there (.here)) (.own (.here) .nil))))))))))))))))))))))))) ⟨trivial, ⟨trivial, ⟨trivial, ⟨trivial, ⟨trivial, ⟨trivial, ⟨(okB5 ((vRel y.fId).fBody)), ⟨trivial, ⟨trivial, ⟨trivial, ⟨trivial, ⟨trivial, ⟨trivial, ⟨(okB5 ((vRel y.fId).fWBody)), ⟨trivial, ⟨trivial, ⟨trivial, ⟨trivial, ⟨trivial, ⟨(okB5 ((vRel y.fId).fPass)), ⟨trivial, ⟨trivial, ⟨(okR5Want ((vRel y.fId).fWants)), ⟨(okS5 ((vRel y.fId).fNames)), ⟨(okI5 ((vRel y.fId).fCodes)), trivial⟩⟩⟩⟩⟩⟩⟩⟩⟩⟩⟩⟩⟩⟩⟩⟩⟩⟩⟩⟩⟩⟩⟩⟩⟩ rfl (by omega) fun x216 H lx216 s217 => ?_
    refine g_add (by omega) (by omega) ?_
    have e218 : (vAgs x0 (pre ++ [y])) = ((vAgs x0 pre) ++ [⟨(vRel y.fId).fType, (vRel y.fId).fDup, (vRel y.fId).fQos, (vRel y.fId).fRetain, (vRel y.fId).fId, (vRel y.fId).fTopic, (vRel y.fId).fBody, (vRel y.fId).fClient, (vRel y.fId).fLevel, (vRel y.fId).fClean, (vRel y.fId).fKeep, (vRel y.fId).fHasWill, (vRel y.fId).fWTopic, (vRel y.fId).fWBody, (vRel y.fId).fWQos, (vRel y.fId).fWRetain, (vRel y.fId).fHasUser, (vRel y.fId).fUser, (vRel y.fId).fHasPass, (vRel y.fId).fPass, (vRel y.fId).fCode, (vRel y.fId).fPresent, ((vRel y.fId).fWants), (vRel y.fId).fNames, (vRel y.fId).fCodes⟩]) := by
     clear s0 s203 s204 s213 s215 s217
     try simp only [decide_eq_true_eq, decide_eq_false_iff_not, bne_iff_ne, beq_iff_eq, beq_eq_false_iff_ne] at h201 h205
     simp only [vAgs, vAg, List.filter_append, List.filter_cons, List.filter_nil, List.map_append, List.map_cons, List.map_nil, h201, h205, if_true, if_false, Bool.false_eq_true]
     first | done | rfl
    exact specF_OutAgain_l0 n hn x0 k0 b0   t (pre ++ [y]) m _ i1 x216 _ (by rw [he]; simp) (by rw [hi]; simp) (by simpa using hm) lx216 (by rw [e218]; exact (s217.sel (.cons (.here) (.cons (.there (.here)) .nil))))
   ·refine g_cF h205 ?_
    refine g_fadr (o' := 1) rfl ?_
    refine g_ldA (ds := encMsg y.fM) s204 (.here) (Nat.le_of_ble_eq_true rfl) rfl ?_
    refine g_fadr (o' := 0) rfl ?_
    refine g_ld (c := .sc (.int .i64 y.fId)) s204 (.here) rfl ?_
    have c219 := specPubF (n + 11) (by omega) y.fM y.fId true (by first | omega | exact hb _ (by simp [he]))
    refine g_callA s204 rfl (.aggF (flMsg _) (.cons .sc (.cons .sc .nil))) (c219) ⟨_, rfl, rfl⟩ (insPacket (vPub y.fM y.fId true)) ?_
    rintro _ _ H ⟨x220, x221, x222, x223, x224, x225, lx220, lx221, lx222, lx223, lx224, lx225, rfl, rfl⟩ s226
    simp only [List.nil_append, List.cons_append] at s226
    refine g_fill (cs := [.sc (.int .i64 ((vPub y.fM y.fId true).fType)), .sc (.bool (vPub y.fM y.fId true).fDup), .sc (.int .i64 ((vPub y.fM y.fId true).fQos)), .sc (.bool (vPub y.fM y.fId true).fRetain), .sc (.int .i64 ((vPub y.fM y.fId true).fId)), .sc (.string ((vPub y.fM y.fId true).fTopic)), x220, .sc (.string ((vPub y.fM y.fId true).fClient)), .sc (.int .i64 ((vPub y.fM y.fId true).fLevel)), .sc (.bool (vPub y.fM y.fId true).fClean), .sc (.int .i64 ((vPub y.fM y.fId true).fKeep)), .sc (.bool (vPub y.fM y.fId true).fHasWill), .sc (.string ((vPub y.fM y.fId true).fWTopic)), x221, .sc (.int .i64 ((vPub y.fM y.fId true).fWQos)), .sc (.bool (vPub y.fM y.fId true).fWRetain), .sc (.bool (vPub y.fM y.fId true).fHasUser), .sc (.string ((vPub y.fM y.fId true).fUser)), .sc (.bool (vPub y.fM y.fId true).fHasPass), x222, .sc (.int .i64 ((vPub y.fM y.fId true).fCode)), .sc (.bool (vPub y.fM y.fId true).fPresent), x223, x224, x225]) (fill_c (z' := [.sc (.int .i64 ((vPub y.fM y.fId true).fType)), .sc (.bool (vPub y.fM y.fId true).fDup), .sc (.int .i64 ((vPub y.fM y.fId true).fQos)), .sc (.bool (vPub y.fM y.fId true).fRetain), .sc (.int .i64 ((vPub y.fM y.fId true).fId)), .sc (.string ((vPub y.fM y.fId true).fTopic)), x220, .sc (.string ((vPub y.fM y.fId true).fClient)), .sc (.int .i64 ((vPub y.fM y.fId true).fLevel)), .sc (.bool (vPub y.fM y.fId true).fClean), .sc (.int .i64 ((vPub y.fM y.fId true).fKeep)), .sc (.bool (vPub y.fM y.fId true).fHasWill), .sc (.string ((vPub y.fM y.fId true).fWTopic)), x221, .sc (.int .i64 ((vPub y.fM y.fId true).fWQos)), .sc (.bool (vPub y.fM y.fId true).fWRetain), .sc (.bool (vPub y.fM y.fId true).fHasUser), .sc (.string ((vPub y.fM y.fId true).fUser)), .sc (.bool (vPub y.fM y.fId true).fHasPass), x222, .sc (.int .i64 ((vPub y.fM y.fId true).fCode)), .sc (.bool (vPub y.fM y.fId true).fPresent), x223, x224, x225]) (cells_agg (lf_c rfl (lf_c rfl (lf_c rfl (lf_c rfl (lf_c rfl (lf_c rfl (lf_c lx220 (lf_c rfl (lf_c rfl (lf_c rfl (lf_c rfl (lf_c rfl (lf_c rfl (lf_c lx221 (lf_c rfl (lf_c rfl (lf_c rfl (lf_c rfl (lf_c rfl (lf_c lx222 (lf_c rfl (lf_c rfl (lf_c lx223 (lf_c lx224 (lf_c lx225 rfl)))))))))))))))))))))))))) rfl (Nat.le_of_ble_eq_true rfl) rfl (rfl)) ?_
    refine g_newSl s226 fun i227 H s228 => ?_
    refine g_appR (cty := [3, 4, 3, 4, 3, 9, 43, 9, 3, 4, 3, 4, 9, 43, 3, 4, 4, 9, 4, 43, 3, 4, 63, 64, 26]) (e := (⟨(vPub y.fM y.fId true).fType, (vPub y.fM y.fId true).fDup, (vPub y.fM y.fId true).fQos, (vPub y.fM y.fId true).fRetain, (vPub y.fM y.fId true).fId, (vPub y.fM y.fId true).fTopic, (vPub y.fM y.fId true).fBody, (vPub y.fM y.fId true).fClient, (vPub y.fM y.fId true).fLevel, (vPub y.fM y.fId true).fClean, (vPub y.fM y.fId true).fKeep, (vPub y.fM y.fId true).fHasWill, (vPub y.fM y.fId true).fWTopic, (vPub y.fM y.fId true).fWBody, (vPub y.fM y.fId true).fWQos, (vPub y.fM y.fId true).fWRetain, (vPub y.fM y.fId true).fHasUser, (vPub y.fM y.fId true).fUser, (vPub y.fM y.fId true).fHasPass, (vPub y.fM y.fId true).fPass, (vPub y.fM y.fId true).fCode, (vPub y.fM y.fId true).fPresent, ((vPub y.fM y.fId true).fWants), (vPub y.fM y.fId true).fNames, (vPub y.fM y.fId true).fCodes⟩ : PacketV)) s228 ⟨_, _, rfl, rfl, rfl, rfl⟩ (.there (.there (.there (.there (.there (.there (.there (.there (.here))))))))) (.here) rfl (lf_c rfl (lf_c rfl (lf_c rfl (lf_c rfl (lf_c rfl (lf_c rfl (lf_c lx220 (lf_c rfl (lf_c rfl (lf_c rfl (lf_c rfl (lf_c rfl (lf_c rfl (lf_c lx221 (lf_c rfl (lf_c rfl (lf_c rfl (lf_c rfl (lf_c rfl (lf_c lx222 (lf_c rfl (lf_c rfl (lf_c lx223 (lf_c lx224 (lf_c lx225 rfl))))))))))))))))))))))))) (.sc (.sc (.sc (.sc (.sc (.sc (.own (.there (.there (.there (.there (.there (.here)))))) (.sc (.sc (.sc (.sc (.sc (.sc (.own (.there (.there (.there (.there (.here))))) (.sc (.sc (.sc (.sc (.sc (.own (.there (.there (.there (.here)))) (.sc (.sc (.own (.there (.there (.here))) (.own (.there (.here)) (.own (.here) .nil))))))))))))))))))))))))) ⟨trivial, ⟨trivial, ⟨trivial, ⟨trivial, ⟨trivial, ⟨trivial, ⟨(okB5 ((vPub y.fM y.fId true).fBody)), ⟨trivial, ⟨trivial, ⟨trivial, ⟨trivial, ⟨trivial, ⟨trivial, ⟨(okB5 ((vPub y.fM y.fId true).fWBody)), ⟨trivial, ⟨trivial, ⟨trivial, ⟨trivial, ⟨trivial, ⟨(okB5 ((vPub y.fM y.fId true).fPass)), ⟨trivial, ⟨trivial, ⟨(okR5Want ((vPub y.fM y.fId true).fWants)), ⟨(okS5 ((vPub y.fM y.fId true).fNames)), ⟨(okI5 ((vPub y.fM y.fId true).fCodes)), trivial⟩⟩⟩⟩⟩⟩⟩⟩⟩⟩⟩⟩⟩⟩⟩⟩⟩⟩⟩⟩⟩⟩⟩⟩⟩ rfl (by omega) fun x229 H lx229 s230 => ?_
    refine g_add (by omega) (by omega) ?_
    have e231 : (vAgs x0 (pre ++ [y])) = ((vAgs x0 pre) ++ [⟨(vPub y.fM y.fId true).fType, (vPub y.fM y.fId true).fDup, (vPub y.fM y.fId true).fQos, (vPub y.fM y.fId true).fRetain, (vPub y.fM y.fId true).fId, (vPub y.fM y.fId true).fTopic, (vPub y.fM y.fId true).fBody, (vPub y.fM y.fId true).fClient, (vPub y.fM y.fId true).fLevel, (vPub y.fM y.fId true).fClean, (vPub y.fM y.fId true).fKeep, (vPub y.fM y.fId true).fHasWill, (vPub y.fM y.fId true).fWTopic, (vPub y.fM y.fId true).fWBody, (vPub y.fM y.fId true).fWQos, (vPub y.fM y.fId true).fWRetain, (vPub y.fM y.fId true).fHasUser, (vPub y.fM y.fId true).fUser, (vPub y.fM y.fId true).fHasPass, (vPub y.fM y.fId true).fPass, (vPub y.fM y.fId true).fCode, (vPub y.fM y.fId true).fPresent, ((vPub y.fM y.fId true).fWants), (vPub y.fM y.fId true).fNames, (vPub y.fM y.fId true).fCodes⟩]) := by
     clear s0 s203 s204 s226 s228 s230
     try simp only [decide_eq_true_eq, decide_eq_false_iff_not, bne_iff_ne, beq_iff_eq, beq_eq_false_iff_ne] at h201 h205
     simp only [vAgs, vAg, List.filter_append, List.filter_cons, List.filter_nil, List.map_append, List.map_cons, List.map_nil, h201, h205, if_true, if_false, Bool.false_eq_true]
     first | done | rfl
    exact specF_OutAgain_l0 n hn x0 k0 b0   t (pre ++ [y]) m _ i1 x229 _ (by rw [he]; simp) (by rw [hi]; simp) (by simpa using hm) lx229 (by rw [e231]; exact (s230.sel (.cons (.here) (.cons (.there (.here)) .nil))))
  ·refine g_cF h201 ?_
   refine g_ret (ret_own s0 (.here)) ?_
   have e232 : vOutAgain x0 = (vAgs x0 pre) := by
    clear s0
    try simp only [decide_eq_true_eq, decide_eq_false_iff_not, bne_iff_ne, beq_iff_eq, beq_eq_false_iff_ne] at h201
    first | assumption | (simp only [vOutAgain, vAgs_no, h201, if_true, if_false, Bool.false_eq_true]; first | done | rfl)
   rw [e232]
   first | done | rfl
theorem specF_OutAgain (n : Nat) (hn : 1048576 < n) (x0 : OutV) (k0 : okOut x0) (b0 : wtOut x0 ≤ 1048576) : tree E0 (n + 13) 55 26 [.agg (encOut x0)] = some (rowsC encPacket (vOutAgain x0)) := by
 rw [tree_def, f26_eq, f26]
 refine tree_gd (G := (· = some (rowsC encPacket (vOutAgain x0)))) ?_
 have hfl := flA_len x0 b0
 have hb : ∀ z ∈ x0.fFl, z.fM.fBody.size ≤ 1048576 := fun z hz => by have := (smwOut x0 b0).1.2 z hz; exact this.1
 try simp only [PR_box, PR_new, PR_newSl, PR_fadr, PR_load, PR_store, PR_bin, PR_binB, PR_binA, PR_un, PR_cond, PR_guard, PR_pick, PR_len, PR_lenS, PR_iadr, PR_idx, PR_slice, PR_sliceS, PR_fill, PR_make, PR_app, PR_appS, PR_cvI, PR_cvSS, PR_cvBS, PR_cvSB, PR_extr, PR_nil, PR_clear, PR_fld, PR_apart, PR_same]
 have s0 : Sep [] [] := sep_nil
 refine g_box s0 (cells_fl (flOut _)) fun i1 H s2 => ?_
 have s3 := s2.nl (ty := 55) ⟨_, _, rfl, rfl⟩
 exact specF_OutAgain_l0 n hn x0 k0 b0   x0.fFl [] _ 0 i1 .nl _ rfl rfl (by omega) rfl s3
theorem implOk6F (n : Nat) (hn : 1048576 < n) (i : Int) : tree E0 (n + 3) 4 127 [.agg (encPacket (pkId 6 i))] = some (.sc (.bool (vIn i 1 65535))) := by
 rw [tree_def, f127_eq, f127]
 refine tree_gd (G := (· = some (.sc (.bool (vIn i 1 65535))))) ?_
 try simp only [PR_box, PR_new, PR_newSl, PR_fadr, PR_load, PR_store, PR_bin, PR_binB, PR_binA, PR_un, PR_cond, PR_guard, PR_pick, PR_len, PR_lenS, PR_iadr, PR_idx, PR_slice, PR_sliceS, PR_fill, PR_make, PR_app, PR_appS, PR_cvI, PR_cvSS, PR_cvBS, PR_cvSB, PR_extr, PR_nil, PR_clear, PR_fld, PR_apart, PR_same]
 have s0 : Sep [] [] := sep_nil
 refine g_box s0 (cells_fl (flPacket _)) fun i1 H s2 => ?_
 refine g_fadr (o' := 0) rfl ?_
 refine g_ld (c := .sc (.int .i64 ((pkId 6 i).fType))) s2 (.here) rfl ?_
 refine g_callS (v := (.bool (vIn ((pkId 6 i).fType) 1 14))) s2 rfl (.cons .sc (.cons .sc (.cons .sc .nil))) (withinF (n + 1) _ ((pkId 6 i).fType) 1 14) ?_
 refine g_not ?_
 refine g_gY (nF rfl) ?_
 refine g_ldW s2 (.here) rfl ?_
 refine Gd.bothE ?_ ?_
 ·refine g_gY (nF rfl) ?_
  refine g_ldW s2 (.here) rfl ?_
  refine g_gY (nF rfl) ?_
  refine g_hm rfl rfl ?_
  refine implNamedK (n + 1) (by omega) (pkId 6 i) s2 fun Rs3 H hRs3 s3 => ?_
  refine g_gY (nF rfl) ?_
  refine g_callS (v := (.bool (vSamePacket (pkId 6 i) (vNamed false (pkId 6 i))))) s3 rfl (.aggF (flPacket _) (.agg (hRs3 _) .nil)) (implSamePacketF n (by omega) _ (pkId 6 i) (vNamed false (pkId 6 i)) (Nat.zero_le _) (Nat.zero_le _) (Nat.zero_le _)) ?_
  refine g_gY (nF rfl) ?_
  refine g_not ?_
  refine g_pF (nF rfl) ?_
  refine g_cF (nF (same6 false i)) ?_
  refine g_fadr (o' := 0) rfl ?_
  refine g_ld (c := .sc (.int .i64 ((pkId 6 i).fType))) s3 (.here) rfl ?_
  refine g_eql ?_
  refine g_cF rfl ?_
  refine g_eql ?_
  refine g_cF rfl ?_
  refine g_eql ?_
  refine g_cF rfl ?_
  refine g_eql ?_
  refine g_letJ ?_
  refine g_cF rfl ?_
  refine g_eql ?_
  refine g_cF rfl ?_
  refine g_eql ?_
  refine g_cT rfl ?_
  refine g_cT rfl ?_
  refine g_fadr (o' := 4) rfl ?_
  refine g_ld (c := .sc (.int .i64 ((pkId 6 i).fId))) s3 (.here) rfl ?_
  refine g_callS (v := (.bool (vIn ((pkId 6 i).fId) 1 65535))) s3 rfl (.cons .sc .nil) (isId6F n (by omega) ((pkId 6 i).fId)) ?_
  refine g_ret rfl ?_
  first | rfl | (simp_all; done)
 ·refine g_gY (nF rfl) ?_
  refine g_hm rfl rfl ?_
  refine implNamedK (n + 1) (by omega) (pkId 6 i) s2 fun Rs4 H hRs4 s4 => ?_
  refine g_gY (nF rfl) ?_
  refine g_ldW s4 (.here) rfl ?_
  refine g_gY (nF rfl) ?_
  refine g_callS (v := (.bool (vSamePacket (pkId 6 i) (vNamed false (pkId 6 i))))) s4 rfl (.aggF (flPacket _) (.agg (hRs4 _) .nil)) (implSamePacketF n (by omega) _ (pkId 6 i) (vNamed false (pkId 6 i)) (Nat.zero_le _) (Nat.zero_le _) (Nat.zero_le _)) ?_
  refine g_gY (nF rfl) ?_
  refine g_not ?_
  refine g_pF (nF rfl) ?_
  refine g_cF (nF (same6 false i)) ?_
  refine g_fadr (o' := 0) rfl ?_
  refine g_ld (c := .sc (.int .i64 ((pkId 6 i).fType))) s4 (.here) rfl ?_
  refine g_eql ?_
  refine g_cF rfl ?_
  refine g_eql ?_
  refine g_cF rfl ?_
  refine g_eql ?_
  refine g_cF rfl ?_
  refine g_eql ?_
  refine g_letJ ?_
  refine g_cF rfl ?_
  refine g_eql ?_
  refine g_cF rfl ?_
  refine g_eql ?_
  refine g_cT rfl ?_
  refine g_cT rfl ?_
  refine g_fadr (o' := 4) rfl ?_
  refine g_ld (c := .sc (.int .i64 ((pkId 6 i).fId))) s4 (.here) rfl ?_
  refine g_callS (v := (.bool (vIn ((pkId 6 i).fId) 1 65535))) s4 rfl (.cons .sc .nil) (isId6F n (by omega) ((pkId 6 i).fId)) ?_
  refine g_ret rfl ?_
  first | rfl | (simp_all; done)
theorem implRelF (n : Nat) (hn : 1048576 < n) (i : Int) : tree E0 (n + 4) 66 73 [.sc (.int .i64 6), .sc (.int .i64 i)] = some (.agg (encPacket (vRel i))) := by
 rw [tree_def, f73_eq, f73]
 refine tree_gd (G := (· = some (.agg (encPacket (vRel i))))) ?_
 try simp only [PR_box, PR_new, PR_newSl, PR_fadr, PR_load, PR_store, PR_bin, PR_binB, PR_binA, PR_un, PR_cond, PR_guard, PR_pick, PR_len, PR_lenS, PR_iadr, PR_idx, PR_slice, PR_sliceS, PR_fill, PR_make, PR_app, PR_appS, PR_cvI, PR_cvSS, PR_cvBS, PR_cvSB, PR_extr, PR_nil, PR_clear, PR_fld, PR_apart, PR_same]
 have s0 : Sep [] [] := sep_nil
 refine g_new s0 fun i1 H s2 => ?_
 refine g_fill (cs := [.sc (.int .i64 6), .sc (.bool false), .sc (.int .i64 0), .sc (.bool false), .sc (.int .i64 i), .sc (.string (⟨#[]⟩)), .nl, .sc (.string (⟨#[]⟩)), .sc (.int .i64 0), .sc (.bool false), .sc (.int .i64 0), .sc (.bool false), .sc (.string (⟨#[]⟩)), .nl, .sc (.int .i64 0), .sc (.bool false), .sc (.bool false), .sc (.string (⟨#[]⟩)), .sc (.bool false), .nl, .sc (.int .i64 0), .sc (.bool false), .nl, .nl, .nl]) rfl ?_
 refine g_new s2 fun i3 H s4 => ?_
 refine g_st (cs' := [.sc (.int .i64 6), .sc (.bool false), .sc (.int .i64 0), .sc (.bool false), .sc (.int .i64 i), .sc (.string (⟨#[]⟩)), .nl, .sc (.string (⟨#[]⟩)), .sc (.int .i64 0), .sc (.bool false), .sc (.int .i64 0), .sc (.bool false), .sc (.string (⟨#[]⟩)), .nl, .sc (.int .i64 0), .sc (.bool false), .sc (.bool false), .sc (.string (⟨#[]⟩)), .sc (.bool false), .nl, .sc (.int .i64 0), .sc (.bool false), .nl, .nl, .nl]) s4 (.here) (cells_agg (lf_c rfl (lf_c rfl (lf_c rfl (lf_c rfl (lf_c rfl (lf_c rfl (lf_c rfl (lf_c rfl (lf_c rfl (lf_c rfl (lf_c rfl (lf_c rfl (lf_c rfl (lf_c rfl (lf_c rfl (lf_c rfl (lf_c rfl (lf_c rfl (lf_c rfl (lf_c rfl (lf_c rfl (lf_c rfl (lf_c rfl (lf_c rfl (lf_c rfl rfl)))))))))))))))))))))))))) rfl (Nat.le_of_ble_eq_true rfl) rfl fun H s5 => ?_
 refine g_callS (v := (.bool (vIn 6 4 7))) s5 rfl (.cons .sc (.cons .sc (.cons .sc .nil))) (withinF (n + 2) _ 6 4 7) ?_
 refine g_not ?_
 refine g_gN (nF rfl) ?_
 refine g_gN (nF rfl) ?_
 refine g_pF (nF rfl) ?_
 refine g_gY rfl ?_
 refine g_ldW s5 (.here) rfl ?_
 refine g_gY rfl ?_
 refine g_callS (v := (.bool (vIn i 1 65535))) s5 rfl (.agg (.cons .sc (.cons .sc (.cons .sc (.cons .sc (.cons .sc (.cons .sc (.cons .nl (.cons .sc (.cons .sc (.cons .sc (.cons .sc (.cons .sc (.cons .sc (.cons .nl (.cons .sc (.cons .sc (.cons .sc (.cons .sc (.cons .sc (.cons .nl (.cons .sc (.cons .sc (.cons .nl (.cons .nl (.cons .nl .nil))))))))))))))))))))))))) .nil) (implOk6F n (by omega) i) ?_
 refine g_gY rfl ?_
 refine g_not ?_
 refine g_pF rfl ?_
 refine w_split ((vIn i 1 65535)) (fun h6 => ?_) (fun h6 => ?_)
 ·refine g_cF (nF h6) ?_
  refine g_ldW s5 (.here) rfl ?_
  refine g_st (cs' := [.sc (.int .i64 6), .sc (.bool false), .sc (.int .i64 0), .sc (.bool false), .sc (.int .i64 i), .sc (.string (⟨#[]⟩)), .nl, .sc (.string (⟨#[]⟩)), .sc (.int .i64 0), .sc (.bool false), .sc (.int .i64 0), .sc (.bool false), .sc (.string (⟨#[]⟩)), .nl, .sc (.int .i64 0), .sc (.bool false), .sc (.bool false), .sc (.string (⟨#[]⟩)), .sc (.bool false), .nl, .sc (.int .i64 0), .sc (.bool false), .nl, .nl, .nl]) s5 (.there (.here)) (cells_agg (lf_c rfl (lf_c rfl (lf_c rfl (lf_c rfl (lf_c rfl (lf_c rfl (lf_c rfl (lf_c rfl (lf_c rfl (lf_c rfl (lf_c rfl (lf_c rfl (lf_c rfl (lf_c rfl (lf_c rfl (lf_c rfl (lf_c rfl (lf_c rfl (lf_c rfl (lf_c rfl (lf_c rfl (lf_c rfl (lf_c rfl (lf_c rfl (lf_c rfl rfl)))))))))))))))))))))))))) rfl (Nat.le_of_ble_eq_true rfl) rfl fun H s7 => ?_
  refine g_ldW s7 (.here) rfl ?_
  refine g_ret (ret_agg s7 ⟨_, rfl, rfl⟩ (.sc (.sc (.sc (.sc (.sc (.sc (.nl (.sc (.sc (.sc (.sc (.sc (.sc (.nl (.sc (.sc (.sc (.sc (.sc (.nl (.sc (.sc (.nl (.nl (.nl .nil))))))))))))))))))))))))) ⟨trivial, ⟨trivial, ⟨trivial, ⟨trivial, ⟨trivial, ⟨trivial, ⟨(okNl ⟨_, _, rfl, rfl⟩), ⟨trivial, ⟨trivial, ⟨trivial, ⟨trivial, ⟨trivial, ⟨trivial, ⟨(okNl ⟨_, _, rfl, rfl⟩), ⟨trivial, ⟨trivial, ⟨trivial, ⟨trivial, ⟨trivial, ⟨(okNl ⟨_, _, rfl, rfl⟩), ⟨trivial, ⟨trivial, ⟨(okNl ⟨_, _, rfl, rfl⟩), ⟨(okNl ⟨_, _, rfl, rfl⟩), ⟨(okNl ⟨_, _, rfl, rfl⟩), trivial⟩⟩⟩⟩⟩⟩⟩⟩⟩⟩⟩⟩⟩⟩⟩⟩⟩⟩⟩⟩⟩⟩⟩⟩⟩) ?_
  have e8 : vRel i = (⟨6, false, 0, false, i, ⟨#[]⟩, ⟨#[]⟩, ⟨#[]⟩, 0, false, 0, false, ⟨#[]⟩, ⟨#[]⟩, 0, false, false, ⟨#[]⟩, false, ⟨#[]⟩, 0, false, [], [], []⟩ : PacketV) := by
   clear s0 s2 s4 s5 s7
   try simp only [decide_eq_true_eq, decide_eq_false_iff_not, bne_iff_ne, beq_iff_eq, beq_eq_false_iff_ne] at h6
   first | assumption | (simp only [vRel, pkId, pkt0, h6, if_true, if_false, Bool.false_eq_true]; first | done | rfl)
  rw [e8]
  first | done | rfl
 ·refine g_cT (nT h6) ?_
  refine g_fill (cs := [.sc (.int .i64 0), .sc (.bool false), .sc (.int .i64 0), .sc (.bool false), .sc (.int .i64 0), .sc (.string (⟨#[]⟩)), .nl, .sc (.string (⟨#[]⟩)), .sc (.int .i64 0), .sc (.bool false), .sc (.int .i64 0), .sc (.bool false), .sc (.string (⟨#[]⟩)), .nl, .sc (.int .i64 0), .sc (.bool false), .sc (.bool false), .sc (.string (⟨#[]⟩)), .sc (.bool false), .nl, .sc (.int .i64 0), .sc (.bool false), .nl, .nl, .nl]) rfl ?_
  refine g_st (cs' := [.sc (.int .i64 0), .sc (.bool false), .sc (.int .i64 0), .sc (.bool false), .sc (.int .i64 0), .sc (.string (⟨#[]⟩)), .nl, .sc (.string (⟨#[]⟩)), .sc (.int .i64 0), .sc (.bool false), .sc (.int .i64 0), .sc (.bool false), .sc (.string (⟨#[]⟩)), .nl, .sc (.int .i64 0), .sc (.bool false), .sc (.bool false), .sc (.string (⟨#[]⟩)), .sc (.bool false), .nl, .sc (.int .i64 0), .sc (.bool false), .nl, .nl, .nl]) s5 (.there (.here)) (cells_agg (lf_c rfl (lf_c rfl (lf_c rfl (lf_c rfl (lf_c rfl (lf_c rfl (lf_c rfl (lf_c rfl (lf_c rfl (lf_c rfl (lf_c rfl (lf_c rfl (lf_c rfl (lf_c rfl (lf_c rfl (lf_c rfl (lf_c rfl (lf_c rfl (lf_c rfl (lf_c rfl (lf_c rfl (lf_c rfl (lf_c rfl (lf_c rfl (lf_c rfl rfl)))))))))))))))))))))))))) rfl (Nat.le_of_ble_eq_true rfl) rfl fun H s9 => ?_
  refine g_ldW s9 (.here) rfl ?_
  refine g_ret (ret_agg s9 ⟨_, rfl, rfl⟩ (.sc (.sc (.sc (.sc (.sc (.sc (.nl (.sc (.sc (.sc (.sc (.sc (.sc (.nl (.sc (.sc (.sc (.sc (.sc (.nl (.sc (.sc (.nl (.nl (.nl .nil))))))))))))))))))))))))) ⟨trivial, ⟨trivial, ⟨trivial, ⟨trivial, ⟨trivial, ⟨trivial, ⟨(okNl ⟨_, _, rfl, rfl⟩), ⟨trivial, ⟨trivial, ⟨trivial, ⟨trivial, ⟨trivial, ⟨trivial, ⟨(okNl ⟨_, _, rfl, rfl⟩), ⟨trivial, ⟨trivial, ⟨trivial, ⟨trivial, ⟨trivial, ⟨(okNl ⟨_, _, rfl, rfl⟩), ⟨trivial, ⟨trivial, ⟨(okNl ⟨_, _, rfl, rfl⟩), ⟨(okNl ⟨_, _, rfl, rfl⟩), ⟨(okNl ⟨_, _, rfl, rfl⟩), trivial⟩⟩⟩⟩⟩⟩⟩⟩⟩⟩⟩⟩⟩⟩⟩⟩⟩⟩⟩⟩⟩⟩⟩⟩⟩) ?_
  have e10 : vRel i = (⟨0, false, 0, false, 0, ⟨#[]⟩, ⟨#[]⟩, ⟨#[]⟩, 0, false, 0, false, ⟨#[]⟩, ⟨#[]⟩, 0, false, false, ⟨#[]⟩, false, ⟨#[]⟩, 0, false, [], [], []⟩ : PacketV) := by
   clear s0 s2 s4 s5 s9
   try simp only [decide_eq_true_eq, decide_eq_false_iff_not, bne_iff_ne, beq_iff_eq, beq_eq_false_iff_ne] at h6
   first | assumption | (simp only [vRel, pkId, pkt0, h6, if_true, if_false, Bool.false_eq_true]; first | done | rfl)
  rw [e10]
  first | done | rfl
theorem implF_OutAgain_l0 (n : Nat) (hn : 1048576 < n) (x0 : OutV) (k0 : okOut x0) (b0 : wtOut x0 ≤ 1048576) (h3 : (vOutOk x0) = true)  : ∀ (t pre : List FlightV) (m : Nat) (i : Int) (i1 : Nat) (a0 : AV) (H : Heap), x0.fFl = pre ++ t → i = ((pre.length : Nat) : Int) → t.length < m → isLeaf a0 = true → Sep H [.own a0 55 (rowsC encPacket (vAgs x0 pre)), .blk i1 (encOut x0) true] → Gd (· = some (rowsC encPacket (vOutAgain x0))) (f28_l0 (PR (n + 12) AV) (n + 12) (fun x H => ownTree ti0 E0.tp 55 H x) m (a0) (rowsC encFlight x0.fFl) (.sc (.int .i64 ((x0.fFl.length : Nat) : Int))) (.sc (.int .i64 i)) H)
 | [], pre, m + 1, i, i1, a0, H, he, hi, hm, la0, s0 => by
  obtain rfl : pre = x0.fFl := by simpa using he.symm
  have hfl := flA_len x0 b0
  have hb : ∀ z ∈ x0.fFl, z.fM.fBody.size ≤ 1048576 := fun z hz => by have := (smwOut x0 b0).1.2 z hz; exact this.1
  have hag := vAgs_len x0 x0.fFl
  rw [f28_l0]
  try simp only [PR_box, PR_new, PR_newSl, PR_fadr, PR_load, PR_store, PR_bin, PR_binB, PR_binA, PR_un, PR_cond, PR_guard, PR_pick, PR_len, PR_lenS, PR_iadr, PR_idx, PR_slice, PR_sliceS, PR_fill, PR_make, PR_app, PR_appS, PR_cvI, PR_cvSS, PR_cvBS, PR_cvSB, PR_extr, PR_nil, PR_clear, PR_fld, PR_apart, PR_same]
  refine g_lss ?_
  refine g_cF (by simp [hi]) ?_
  refine g_ret (ret_own s0 (.here)) ?_
  have e201 : vOutAgain x0 = (vAgs x0 x0.fFl) := by
   clear s0
   try simp only [decide_eq_true_eq, decide_eq_false_iff_not, bne_iff_ne, beq_iff_eq, beq_eq_false_iff_ne] at h3
   first | assumption | (simp only [vOutAgain, vAgs_no, h3, if_true, if_false, Bool.false_eq_true]; first | done | rfl)
  rw [e201]
  first | done | rfl
 | y :: t, pre, m + 1, i, i1, a0, H, he, hi, hm, la0, s0 => by
  have hlt : pre.length < x0.fFl.length := by rw [he]; simp
  have hfl := flA_len x0 b0
  have hb : ∀ z ∈ x0.fFl, z.fM.fBody.size ≤ 1048576 := fun z hz => by have := (smwOut x0 b0).1.2 z hz; exact this.1
  have hag := vAgs_len x0 pre
  rw [f28_l0]
  try simp only [PR_box, PR_new, PR_newSl, PR_fadr, PR_load, PR_store, PR_bin, PR_binB, PR_binA, PR_un, PR_cond, PR_guard, PR_pick, PR_len, PR_lenS, PR_iadr, PR_idx, PR_slice, PR_sliceS, PR_fill, PR_make, PR_app, PR_appS, PR_cvI, PR_cvSS, PR_cvBS, PR_cvSB, PR_extr, PR_nil, PR_clear, PR_fld, PR_apart, PR_same]
  refine g_lss ?_
  refine g_cT (by simp [hi]; omega) ?_
  refine g_iadr hi lenFlight (by decide) he ?_
  refine g_ldE (lenFlight _) ?_
  refine g_new s0 fun i201 H s202 => ?_
  refine g_st (cs' := encFlight y) s202 (.here) (cells_fl (flFlight _)) rfl (Nat.le_of_ble_eq_true rfl) rfl fun H s203 => ?_
  refine g_fadr (o' := 5) rfl ?_
  refine g_ld (c := .sc (.int .i64 y.fSt)) s203 (.here) rfl ?_
  refine g_eql ?_
  refine w_split ((decide (y.fSt = 3))) (fun h204 => ?_) (fun h204 => ?_)
  ·refine g_cT h204 ?_
   refine g_fadr (o' := 0) rfl ?_
   refine g_ld (c := .sc (.int .i64 y.fId)) s203 (.here) rfl ?_
   have c205 := implRelF (n + 8) (by omega) y.fId
   refine g_callA s203 rfl (.cons .sc (.cons .sc .nil)) (c205) ⟨_, rfl, rfl⟩ (insPacket (vRel y.fId)) ?_
   rintro _ _ H ⟨x206, x207, x208, x209, x210, x211, lx206, lx207, lx208, lx209, lx210, lx211, rfl, rfl⟩ s212
   simp only [List.nil_append, List.cons_append] at s212
   refine g_fill (cs := [.sc (.int .i64 ((vRel y.fId).fType)), .sc (.bool (vRel y.fId).fDup), .sc (.int .i64 ((vRel y.fId).fQos)), .sc (.bool (vRel y.fId).fRetain), .sc (.int .i64 ((vRel y.fId).fId)), .sc (.string ((vRel y.fId).fTopic)), x206, .sc (.string ((vRel y.fId).fClient)), .sc (.int .i64 ((vRel y.fId).fLevel)), .sc (.bool (vRel y.fId).fClean), .sc (.int .i64 ((vRel y.fId).fKeep)), .sc (.bool (vRel y.fId).fHasWill), .sc (.string ((vRel y.fId).fWTopic)), x207, .sc (.int .i64 ((vRel y.fId).fWQos)), .sc (.bool (vRel y.fId).fWRetain), .sc (.bool (vRel y.fId).fHasUser), .sc (.string ((vRel y.fId).fUser)), .sc (.bool (vRel y.fId).fHasPass), x208, .sc (.int .i64 ((vRel y.fId).fCode)), .sc (.bool (vRel y.fId).fPresent), x209, x210, x211]) (fill_c (z' := [.sc (.int .i64 ((vRel y.fId).fType)), .sc (.bool (vRel y.fId).fDup), .sc (.int .i64 ((vRel y.fId).fQos)), .sc (.bool (vRel y.fId).fRetain), .sc (.int .i64 ((vRel y.fId).fId)), .sc (.string ((vRel y.fId).fTopic)), x206, .sc (.string ((vRel y.fId).fClient)), .sc (.int .i64 ((vRel y.fId).fLevel)), .sc (.bool (vRel y.fId).fClean), .sc (.int .i64 ((vRel y.fId).fKeep)), .sc (.bool (vRel y.fId).fHasWill), .sc (.string ((vRel y.fId).fWTopic)), x207, .sc (.int .i64 ((vRel y.fId).fWQos)), .sc (.bool (vRel y.fId).fWRetain), .sc (.bool (vRel y.fId).fHasUser), .sc (.string ((vRel y.fId).fUser)), .sc (.bool (vRel y.fId).fHasPass), x208, .sc (.int .i64 ((vRel y.fId).fCode)), .sc (.bool (vRel y.fId).fPresent), x209, x210, x211]) (cells_agg (lf_c rfl (lf_c rfl (lf_c rfl (lf_c rfl (lf_c rfl (lf_c rfl (lf_c lx206 (lf_c rfl (lf_c rfl (lf_c rfl (lf_c rfl (lf_c rfl (lf_c rfl (lf_c lx207 (lf_c rfl (lf_c rfl (lf_c rfl (lf_c rfl (lf_c rfl (lf_c lx208 (lf_c rfl (lf_c rfl (lf_c lx209 (lf_c lx210 (lf_c lx211 rfl)))))))))))))))))))))))))) rfl (Nat.le_of_ble_eq_true rfl) rfl (rfl)) ?_
   refine g_newSl s212 fun i213 H s214 => ?_
   refine g_appR (cty := [3, 4, 3, 4, 3, 9, 43, 9, 3, 4, 3, 4, 9, 43, 3, 4, 4, 9, 4, 43, 3, 4, 63, 64, 26]) (e := (⟨(vRel y.fId).fType, (vRel y.fId).fDup, (vRel y.fId).fQos, (vRel y.fId).fRetain, (vRel y.fId).fId, (vRel y.fId).fTopic, (vRel y.fId).fBody, (vRel y.fId).fClient, (vRel y.fId).fLevel, (vRel y.fId).fClean, (vRel y.fId).fKeep, (vRel y.fId).fHasWill, (vRel y.fId).fWTopic, (vRel y.fId).fWBody, (vRel y.fId).fWQos, (vRel y.fId).fWRetain, (vRel y.fId).fHasUser, (vRel y.fId).fUser, (vRel y.fId).fHasPass, (vRel y.fId).fPass, (vRel y.fId).fCode, (vRel y.fId).fPresent, ((vRel y.fId).fWants), (vRel y.fId).fNames, (vRel y.fId).fCodes⟩ : PacketV)) s214 ⟨_, _, rfl, rfl, rfl, rfl⟩ (.there (.there (.there (.there (.there (.there (.there (.there (.here))))))))) (.here) rfl (lf_c rfl (lf_c rfl (lf_c rfl (lf_c rfl (lf_c rfl (lf_c rfl (lf_c lx206 (lf_c rfl (lf_c rfl (lf_c rfl (lf_c rfl (lf_c rfl (lf_c rfl (lf_c lx207 (lf_c rfl (lf_c rfl (lf_c rfl (lf_c rfl (lf_c rfl (lf_c lx208 (lf_c rfl (lf_c rfl (lf_c lx209 (lf_c lx210 (lf_c lx211 rfl))))))))))))))))))))))))) (.sc (.sc (.sc (.sc (.sc (.sc (.own (.there (.there (.there (.there (.there (.here)))))) (.sc (.sc (.sc (.sc (.sc (.sc (.own (.there (.there (.there (.there (.here))))) (.sc (.sc (.sc (.sc (.sc (.own (.there (.there (.there (.here)))) (.sc (.sc (.own (.there (.there (.here))) (.own (.there (.here)) (.own (.here) .nil))))))))))))))))))))))))) ⟨trivial, ⟨trivial, ⟨trivial, ⟨trivial, ⟨trivial, ⟨trivial, ⟨(okB5 ((vRel y.fId).fBody)), ⟨trivial, ⟨trivial, ⟨trivial, ⟨trivial, ⟨trivial, ⟨trivial, ⟨(okB5 ((vRel y.fId).fWBody)), ⟨trivial, ⟨trivial, ⟨trivial, ⟨trivial, ⟨trivial, ⟨(okB5 ((vRel y.fId).fPass)), ⟨trivial, ⟨trivial, ⟨(okR5Want ((vRel y.fId).fWants)), ⟨(okS5 ((vRel y.fId).fNames)), ⟨(okI5 ((vRel y.fId).fCodes)), trivial⟩⟩⟩⟩⟩⟩⟩⟩⟩⟩⟩⟩⟩⟩⟩⟩⟩⟩⟩⟩⟩⟩⟩⟩⟩ rfl (by omega) fun x215 H lx215 s216 => ?_
   refine g_add (by omega) (by omega) ?_
   have e217 : (vAgs x0 (pre ++ [y])) = ((vAgs x0 pre) ++ [⟨(vRel y.fId).fType, (vRel y.fId).fDup, (vRel y.fId).fQos, (vRel y.fId).fRetain, (vRel y.fId).fId, (vRel y.fId).fTopic, (vRel y.fId).fBody, (vRel y.fId).fClient, (vRel y.fId).fLevel, (vRel y.fId).fClean, (vRel y.fId).fKeep, (vRel y.fId).fHasWill, (vRel y.fId).fWTopic, (vRel y.fId).fWBody, (vRel y.fId).fWQos, (vRel y.fId).fWRetain, (vRel y.fId).fHasUser, (vRel y.fId).fUser, (vRel y.fId).fHasPass, (vRel y.fId).fPass, (vRel y.fId).fCode, (vRel y.fId).fPresent, ((vRel y.fId).fWants), (vRel y.fId).fNames, (vRel y.fId).fCodes⟩]) := by
    clear s0 s202 s203 s212 s214 s216
    try simp only [decide_eq_true_eq, decide_eq_false_iff_not, bne_iff_ne, beq_iff_eq, beq_eq_false_iff_ne] at h3 h204
    simp only [vAgs, vAg, List.filter_append, List.filter_cons, List.filter_nil, List.map_append, List.map_cons, List.map_nil, h3, h204, if_true, if_false, Bool.false_eq_true]
    first | done | rfl
   exact implF_OutAgain_l0 n hn x0 k0 b0 h3  t (pre ++ [y]) m _ i1 x215 _ (by rw [he]; simp) (by rw [hi]; simp) (by simpa using hm) lx215 (by rw [e217]; exact (s216.sel (.cons (.here) (.cons (.there (.here)) .nil))))
  ·refine g_cF h204 ?_
   refine g_fadr (o' := 1) rfl ?_
   refine g_ldA (ds := encMsg y.fM) s203 (.here) (Nat.le_of_ble_eq_true rfl) rfl ?_
   refine g_fadr (o' := 0) rfl ?_
   refine g_ld (c := .sc (.int .i64 y.fId)) s203 (.here) rfl ?_
   have c218 := implPubF (n + 10) (by omega) y.fM y.fId true (by first | omega | exact hb _ (by simp [he]))
   refine g_callA s203 rfl (.aggF (flMsg _) (.cons .sc (.cons .sc .nil))) (c218) ⟨_, rfl, rfl⟩ (insPacket (vPub y.fM y.fId true)) ?_
   rintro _ _ H ⟨x219, x220, x221, x222, x223, x224, lx219, lx220, lx221, lx222, lx223, lx224, rfl, rfl⟩ s225
   simp only [List.nil_append, List.cons_append] at s225
   refine g_fill (cs := [.sc (.int .i64 ((vPub y.fM y.fId true).fType)), .sc (.bool (vPub y.fM y.fId true).fDup), .sc (.int .i64 ((vPub y.fM y.fId true).fQos)), .sc (.bool (vPub y.fM y.fId true).fRetain), .sc (.int .i64 ((vPub y.fM y.fId true).fId)), .sc (.string ((vPub y.fM y.fId true).fTopic)), x219, .sc (.string ((vPub y.fM y.fId true).fClient)), .sc (.int .i64 ((vPub y.fM y.fId true).fLevel)), .sc (.bool (vPub y.fM y.fId true).fClean), .sc (.int .i64 ((vPub y.fM y.fId true).fKeep)), .sc (.bool (vPub y.fM y.fId true).fHasWill), .sc (.string ((vPub y.fM y.fId true).fWTopic)), x220, .sc (.int .i64 ((vPub y.fM y.fId true).fWQos)), .sc (.bool (vPub y.fM y.fId true).fWRetain), .sc (.bool (vPub y.fM y.fId true).fHasUser), .sc (.string ((vPub y.fM y.fId true).fUser)), .sc (.bool (vPub y.fM y.fId true).fHasPass), x221, .sc (.int .i64 ((vPub y.fM y.fId true).fCode)), .sc (.bool (vPub y.fM y.fId true).fPresent), x222, x223, x224]) (fill_c (z' := [.sc (.int .i64 ((vPub y.fM y.fId true).fType)), .sc (.bool (vPub y.fM y.fId true).fDup), .sc (.int .i64 ((vPub y.fM y.fId true).fQos)), .sc (.bool (vPub y.fM y.fId true).fRetain), .sc (.int .i64 ((vPub y.fM y.fId true).fId)), .sc (.string ((vPub y.fM y.fId true).fTopic)), x219, .sc (.string ((vPub y.fM y.fId true).fClient)), .sc (.int .i64 ((vPub y.fM y.fId true).fLevel)), .sc (.bool (vPub y.fM y.fId true).fClean), .sc (.int .i64 ((vPub y.fM y.fId true).fKeep)), .sc (.bool (vPub y.fM y.fId true).fHasWill), .sc (.string ((vPub y.fM y.fId true).fWTopic)), x220, .sc (.int .i64 ((vPub y.fM y.fId true).fWQos)), .sc (.bool (vPub y.fM y.fId true).fWRetain), .sc (.bool (vPub y.fM y.fId true).fHasUser), .sc (.string ((vPub y.fM y.fId true).fUser)), .sc (.bool (vPub y.fM y.fId true).fHasPass), x221, .sc (.int .i64 ((vPub y.fM y.fId true).fCode)), .sc (.bool (vPub y.fM y.fId true).fPresent), x222, x223, x224]) (cells_agg (lf_c rfl (lf_c rfl (lf_c rfl (lf_c rfl (lf_c rfl (lf_c rfl (lf_c lx219 (lf_c rfl (lf_c rfl (lf_c rfl (lf_c rfl (lf_c rfl (lf_c rfl (lf_c lx220 (lf_c rfl (lf_c rfl (lf_c rfl (lf_c rfl (lf_c rfl (lf_c lx221 (lf_c rfl (lf_c rfl (lf_c lx222 (lf_c lx223 (lf_c lx224 rfl)))))))))))))))))))))))))) rfl (Nat.le_of_ble_eq_true rfl) rfl (rfl)) ?_
   refine g_newSl s225 fun i226 H s227 => ?_
   refine g_appR (cty := [3, 4, 3, 4, 3, 9, 43, 9, 3, 4, 3, 4, 9, 43, 3, 4, 4, 9, 4, 43, 3, 4, 63, 64, 26]) (e := (⟨(vPub y.fM y.fId true).fType, (vPub y.fM y.fId true).fDup, (vPub y.fM y.fId true).fQos, (vPub y.fM y.fId true).fRetain, (vPub y.fM y.fId true).fId, (vPub y.fM y.fId true).fTopic, (vPub y.fM y.fId true).fBody, (vPub y.fM y.fId true).fClient, (vPub y.fM y.fId true).fLevel, (vPub y.fM y.fId true).fClean, (vPub y.fM y.fId true).fKeep, (vPub y.fM y.fId true).fHasWill, (vPub y.fM y.fId true).fWTopic, (vPub y.fM y.fId true).fWBody, (vPub y.fM y.fId true).fWQos, (vPub y.fM y.fId true).fWRetain, (vPub y.fM y.fId true).fHasUser, (vPub y.fM y.fId true).fUser, (vPub y.fM y.fId true).fHasPass, (vPub y.fM y.fId true).fPass, (vPub y.fM y.fId true).fCode, (vPub y.fM y.fId true).fPresent, ((vPub y.fM y.fId true).fWants), (vPub y.fM y.fId true).fNames, (vPub y.fM y.fId true).fCodes⟩ : PacketV)) s227 ⟨_, _, rfl, rfl, rfl, rfl⟩ (.there (.there (.there (.there (.there (.there (.there (.there (.here))))))))) (.here) rfl (lf_c rfl (lf_c rfl (lf_c rfl (lf_c rfl (lf_c rfl (lf_c rfl (lf_c lx219 (lf_c rfl (lf_c rfl (lf_c rfl (lf_c rfl (lf_c rfl (lf_c rfl (lf_c lx220 (lf_c rfl (lf_c rfl (lf_c rfl (lf_c rfl (lf_c rfl (lf_c lx221 (lf_c rfl (lf_c rfl (lf_c lx222 (lf_c lx223 (lf_c lx224 rfl))))))))))))))))))))))))) (.sc (.sc (.sc (.sc (.sc (.sc (.own (.there (.there (.there (.there (.there (.here)))))) (.sc (.sc (.sc (.sc (.sc (.sc (.own (.there (.there (.there (.there (.here))))) (.sc (.sc (.sc (.sc (.sc (.own (.there (.there (.there (.here)))) (.sc (.sc (.own (.there (.there (.here))) (.own (.there (.here)) (.own (.here) .nil))))))))))))))))))))))))) ⟨trivial, ⟨trivial, ⟨trivial, ⟨trivial, ⟨trivial, ⟨trivial, ⟨(okB5 ((vPub y.fM y.fId true).fBody)), ⟨trivial, ⟨trivial, ⟨trivial, ⟨trivial, ⟨trivial, ⟨trivial, ⟨(okB5 ((vPub y.fM y.fId true).fWBody)), ⟨trivial, ⟨trivial, ⟨trivial, ⟨trivial, ⟨trivial, ⟨(okB5 ((vPub y.fM y.fId true).fPass)), ⟨trivial, ⟨trivial, ⟨(okR5Want ((vPub y.fM y.fId true).fWants)), ⟨(okS5 ((vPub y.fM y.fId true).fNames)), ⟨(okI5 ((vPub y.fM y.fId true).fCodes)), trivial⟩⟩⟩⟩⟩⟩⟩⟩⟩⟩⟩⟩⟩⟩⟩⟩⟩⟩⟩⟩⟩⟩⟩⟩⟩ rfl (by omega) fun x228 H lx228 s229 => ?_
   refine g_add (by omega) (by omega) ?_
   have e230 : (vAgs x0 (pre ++ [y])) = ((vAgs x0 pre) ++ [⟨(vPub y.fM y.fId true).fType, (vPub y.fM y.fId true).fDup, (vPub y.fM y.fId true).fQos, (vPub y.fM y.fId true).fRetain, (vPub y.fM y.fId true).fId, (vPub y.fM y.fId true).fTopic, (vPub y.fM y.fId true).fBody, (vPub y.fM y.fId true).fClient, (vPub y.fM y.fId true).fLevel, (vPub y.fM y.fId true).fClean, (vPub y.fM y.fId true).fKeep, (vPub y.fM y.fId true).fHasWill, (vPub y.fM y.fId true).fWTopic, (vPub y.fM y.fId true).fWBody, (vPub y.fM y.fId true).fWQos, (vPub y.fM y.fId true).fWRetain, (vPub y.fM y.fId true).fHasUser, (vPub y.fM y.fId true).fUser, (vPub y.fM y.fId true).fHasPass, (vPub y.fM y.fId true).fPass, (vPub y.fM y.fId true).fCode, (vPub y.fM y.fId true).fPresent, ((vPub y.fM y.fId true).fWants), (vPub y.fM y.fId true).fNames, (vPub y.fM y.fId true).fCodes⟩]) := by
    clear s0 s202 s203 s225 s227 s229
    try simp only [decide_eq_true_eq, decide_eq_false_iff_not, bne_iff_ne, beq_iff_eq, beq_eq_false_iff_ne] at h3 h204
    simp only [vAgs, vAg, List.filter_append, List.filter_cons, List.filter_nil, List.map_append, List.map_cons, List.map_nil, h3, h204, if_true, if_false, Bool.false_eq_true]
    first | done | rfl
   exact implF_OutAgain_l0 n hn x0 k0 b0 h3  t (pre ++ [y]) m _ i1 x228 _ (by rw [he]; simp) (by rw [hi]; simp) (by simpa using hm) lx228 (by rw [e230]; exact (s229.sel (.cons (.here) (.cons (.there (.here)) .nil))))
theorem implF_OutAgain (n : Nat) (hn : 1048576 < n) (x0 : OutV) (k0 : okOut x0) (b0 : wtOut x0 ≤ 1048576) : tree E0 (n + 13) 55 28 [.agg (encOut x0)] = some (rowsC encPacket (vOutAgain x0)) := by
 rw [tree_def, f28_eq, f28]
 refine tree_gd (G := (· = some (rowsC encPacket (vOutAgain x0)))) ?_
 have hfl := flA_len x0 b0
 have hb : ∀ z ∈ x0.fFl, z.fM.fBody.size ≤ 1048576 := fun z hz => by have := (smwOut x0 b0).1.2 z hz; exact this.1
 try simp only [PR_box, PR_new, PR_newSl, PR_fadr, PR_load, PR_store, PR_bin, PR_binB, PR_binA, PR_un, PR_cond, PR_guard, PR_pick, PR_len, PR_lenS, PR_iadr, PR_idx, PR_slice, PR_sliceS, PR_fill, PR_make, PR_app, PR_appS, PR_cvI, PR_cvSS, PR_cvBS, PR_cvSB, PR_extr, PR_nil, PR_clear, PR_fld, PR_apart, PR_same]
 have s0 : Sep [] [] := sep_nil
 refine g_box s0 (cells_fl (flOut _)) fun i1 H s2 => ?_
 refine g_ldW s2 (.here) rfl ?_
 refine g_callS (v := (.bool (vOutOk x0))) s2 rfl (.aggF (flOut _) .nil) (implOutF (n + 2) (by omega) _ x0 b0) ?_
 refine g_not ?_
 refine w_split ((vOutOk x0)) (fun h3 => ?_) (fun h3 => ?_)
 ·refine g_cF (nF h3) ?_
  refine g_fadr (o' := 1) rfl ?_
  refine g_ld (c := rowsC encFlight x0.fFl) s2 (.here) rfl ?_
  refine g_len ?_
  have s4 := s2.nl (ty := 55) ⟨_, _, rfl, rfl⟩
  exact implF_OutAgain_l0 n hn x0 k0 b0 h3  x0.fFl [] _ 0 i1 .nl _ rfl rfl (by omega) rfl s4
 ·refine g_cT (nT h3) ?_
  have s5 := s2.nl (ty := 55) ⟨_, _, rfl, rfl⟩
  refine g_ret (ret_own s5 .here) ?_
  have e6 : vOutAgain x0 = [] := by
   clear s0 s2 s5
   try simp only [decide_eq_true_eq, decide_eq_false_iff_not, bne_iff_ne, beq_iff_eq, beq_eq_false_iff_ne] at h3
   first | assumption | (simp only [vOutAgain, vAgs_no, h3, if_true, if_false, Bool.false_eq_true]; first | done | rfl)
  rw [e6]
  first | done | rfl
theorem rel_wt (i : Int) : wtPacket (vRel i) = 0 := by
 unfold vRel
 split <;> rfl
theorem ag_wt (f : FlightV) : wtPacket (vAg f) ≤ wtFlight f := by
 unfold vAg
 have e : wtFlight f = wtMsg f.fM + 0 := rfl
 split
 ·rw [rel_wt]
  exact Nat.zero_le _
 ·rw [pub_wt, e]
  exact Nat.le_refl _
theorem ags_wt : ∀ (l : List FlightV), wtL wtPacket (l.map vAg) ≤ wtL wtFlight l
 | [] => Nat.le_refl _
 | f :: l => by
  have h1 := ag_wt f
  have h2 := ags_wt l
  show 1 + wtPacket (vAg f) + wtL wtPacket (l.map vAg) ≤ 1 + wtFlight f + wtL wtFlight l
  omega
theorem outAgain_wt (x0 : OutV) (b0 : wtOut x0 ≤ 1048576) : wtL wtPacket (vOutAgain x0) ≤ 1048576 := by
 unfold vOutAgain
 cases h : vOutOk x0 with
 | false =>
  rw [vAgs_no _ _ h]
  exact Nat.zero_le _
 | true =>
  have e : vAgs x0 x0.fFl = x0.fFl.map vAg := by
   unfold vAgs
   rw [List.filter_eq_self.2 (fun _ _ => h)]
  rw [e]
  have := ags_wt x0.fFl
  unfold wtOut at b0
  omega
theorem resF_OutAgain_0 (x0 : OutV) (b0 : wtOut x0 ≤ 1048576) : wtL wtPacket (vOutAgain x0) ≤ 1048576 ∧ ((vOutAgain x0).length ≤ 1048576 ∧ ∀ y ∈ vOutAgain x0, smPacket y) := ⟨outAgain_wt x0 b0, smwS smPacket smwPacket _ (outAgain_wt x0 b0)⟩
end Go.Proofs.YtejjggnchdldoaaGreatDoor.Abs
set_option linter.unusedVariables false
set_option linter.unusedSimpArgs false
namespace Go.Proofs.YtejjggnchdldoaaGreatDoor.Abs
open Go
theorem AtL.split {H : Heap} {ys : List AV} {N : Nat} {ts us : List Nat} {cs ds : List AV} (h : AtL H ys N (ts ++ us) (cs ++ ds)) (hl : ts.length = cs.length) : ∃ y1 y2, ys = y1 ++ y2 ∧ AtL H y1 N ts cs ∧ AtL H y2 (N + nbL cs) us ds := by
 obtain ⟨h1, h2, h3⟩ := h
 have e := instL_append (ti := ti0) (tp := E0.tp) ts cs us ds N hl
 rw [instL_nb] at e
 rw [e] at h1 h3
 rw [nbL_append] at h2
 have h4 := h3.right
 rw [instL_nb] at h4
 exact ⟨_, _, h1, ⟨rfl, by omega, h3.left⟩, ⟨rfl, by omega, h4⟩⟩
theorem AtL.own {d : Nat} {H : Heap} {ys : List AV} {N : Nat} {ts : List Nat} {cs : List AV} (h : AtL H ys N ts cs) (hok : okLW (okW ti0 E0.tp d) ts cs) : OwnC d H ts ys cs (List.range' N (nbL cs)) := by
 have := own_instL (fun ty t N h h' _ => own_inst d ty t N h h') ts cs N hok h.2.2 (instL_live _ _ _)
 rw [instL_nb, ← h.1] at this
 exact this
theorem kept_set {H : Heap} {i : Nat} {b : Blk} : Kept H (H.set i b) i 1 := ⟨by rw [List.length_set]; exact Nat.le_refl _, fun j b hj hd => by rw [List.getElem?_set_ne (by omega)]; exact hj⟩
theorem lm_store {β : Type} {r : Option β} {H : Heap} {w i : Nat} {z ys : List AV} {K : Heap → Option β} (hz : H[i]? = some ⟨z, true, true⟩) (hw : z.length = w) (hy : ys.length = w) (hl : ys.all isLeaf = true) (h : ∀ H', H'[i]? = some ⟨ys, true, true⟩ → Kept H H' i 1 → K H' = r) : pStore w (.ptr i 0) (.agg ys) H (fun H => K H) = r := by
 have hc : cellsA (.agg ys) = some ys := by
  show (if ys.all isLeaf then some ys else none) = _
  rw [if_pos hl]
 rw [st_at w i 0 _ ⟨z, true, true⟩ ys _ _ hz hc hy (by simp only [Nat.zero_add, hw]; exact Nat.le_refl _) rfl]
 have hs : splice z 0 ys = ys := by
  unfold splice
  rw [List.take_zero, List.nil_append, List.drop_of_length_le (by rw [hw, hy]; omega), List.append_nil]
 simp only [hs]
 exact h _ (by rw [List.getElem?_set_self (List.getElem?_eq_some_iff.1 hz).1]) kept_set
end Go.Proofs.YtejjggnchdldoaaGreatDoor.Abs
namespace Go.Proofs.YtejjggnchdldoaaGreatDoor.Abs
open Go
set_option linter.unusedVariables false
set_option linter.unusedSimpArgs false
theorem law_OutAgain (n : Nat) (hn : 1048576 < n) (x0 : OutV) (k0 : okOut x0) : tree E0 (n + 30) 4 6 [.agg (encOut x0)] = some (.sc (.bool true)) := by
 rw [tree_def, f6_eq, f6]
 simp only [PR_box, PR_new, PR_load, PR_store, PR_bin, PR_binB, PR_un, PR_cond, PR_lenS, PR_extr, PR_guard, PR_pick]
 refine w_box (flOut x0) fun i2 i2E B1 => ?_
 refine lw_ld B1 (lenOut x0) ?_
 refine lw_sz rfl (vcons (Vw_agg _ (flOut x0)) (vcons (Vw_sc _ _) vnil)) (szF_Out (n + 24) (by omega) _ x0 k0 _ (by omega) (by omega)) (by omega) rfl fun b0 => ?_
 have c4 := cntvOut (x0)
 have s3w : wtOut x0 ≤ 1048576 := by omega
 have s3 := smwOut x0 s3w
 have c5 := cnt_rows (fs := mfPacketS) (wt := wtPacket) (vOutAgain x0) (fun y _ => rfl) (fun y _ => cntPacket y)
 obtain ⟨s6w, s6⟩ := resF_OutAgain_0 x0 (by omega)
 refine lw_ld B1 (lenOut x0) ?_
 refine lm_agg rfl (vcons (Vw_agg _ (flOut x0)) vnil) (toF_Out (n + 24) (by omega) x0 (by omega)) tyOut fun y10 X8 N7 n9 a11 => ?_
 have o12 : i2 < N7 := by have := (List.getElem?_eq_some_iff.1 B1).1; omega
 replace B1 := blk_grow B1 X8
 refine lm_tree rfl (vcons (a11.vw (okWOut 4 (x0))) vnil) (specF_OutAgain (n + 16) (by omega) x0 k0 (by omega)) fun y16 X14 N13 n15 a17 => ?_
 have o18 : i2 < N13 := by have := (List.getElem?_eq_some_iff.1 B1).1; omega
 replace B1 := blk_grow B1 X14
 refine lw_ld B1 (lenOut x0) ?_
 refine lm_agg rfl (vcons (Vw_agg _ (flOut x0)) vnil) (toF_Out (n + 24) (by omega) x0 (by omega)) tyOut fun y22 X20 N19 n21 a23 => ?_
 have o24 : i2 < N19 := by have := (List.getElem?_eq_some_iff.1 B1).1; omega
 have o25 : N13 + nbT (rowsC encPacket (vOutAgain x0)) ≤ N19 := by have := a17.2.1; omega
 replace B1 := blk_grow B1 X20
 replace a17 := a17.grow X20
 refine lm_put rfl (a23.len.trans (lenOut _)) (a23.leaf (flOut _)) fun i27 i27E B26 => ?_
 have o28 : i2 < i27 := by have := (List.getElem?_eq_some_iff.1 B1).1; omega
 have o29 : N13 + nbT (rowsC encPacket (vOutAgain x0)) ≤ i27 := by have := a17.2.1; omega
 have o30 : N19 + nbL (encOut (x0)) ≤ i27 := by have := a23.2.1; omega
 replace B1 := blk_grow B1 [⟨y22, true, true⟩]
 replace a17 := a17.grow [⟨y22, true, true⟩]
 replace a23 := a23.grow [⟨y22, true, true⟩]
 refine lw_ld B26 (a23.len.trans (lenOut _)) ?_
 refine lm_tree rfl (vcons (a23.vw (okWOut 4 (x0))) vnil) (implF_OutAgain (n + 16) (by omega) x0 k0 (by omega)) fun y34 X32 N31 n33 a35 => ?_
 have o36 : i2 < N31 := by have := (List.getElem?_eq_some_iff.1 B1).1; omega
 have o37 : N13 + nbT (rowsC encPacket (vOutAgain x0)) ≤ N31 := by have := a17.2.1; omega
 have o38 : N19 + nbL (encOut (x0)) ≤ N31 := by have := a23.2.1; omega
 have o39 : i27 < N31 := by have := (List.getElem?_eq_some_iff.1 B26).1; omega
 replace B1 := blk_grow B1 X32
 replace a17 := a17.grow X32
 replace a23 := a23.grow X32
 replace B26 := blk_grow B26 X32
 refine lm_eq rfl (vcons (a35.vw (okW_rows (d := 7) lenPacket tyPacketS (okWPacket 5) (vOutAgain x0))) (vcons (a17.vw (okW_rows (d := 7) lenPacket tyPacketS (okWPacket 5) (vOutAgain x0))) vnil)) (eqF_PacketS (n + 25) (by omega) _ (vOutAgain x0) s6w) ?_
 refine lm_not ?_
 refine lm_cf ?_
 refine lw_ld B26 (a23.len.trans (lenOut _)) ?_
 refine lw_ld B1 (lenOut x0) ?_
 refine lm_agg rfl (vcons (Vw_agg _ (flOut x0)) vnil) (toF_Out (n + 24) (by omega) x0 (by omega)) tyOut fun y43 X41 N40 n42 a44 => ?_
 have o45 : i2 < N40 := by have := (List.getElem?_eq_some_iff.1 B1).1; omega
 have o46 : N13 + nbT (rowsC encPacket (vOutAgain x0)) ≤ N40 := by have := a17.2.1; omega
 have o47 : N19 + nbL (encOut (x0)) ≤ N40 := by have := a23.2.1; omega
 have o48 : i27 < N40 := by have := (List.getElem?_eq_some_iff.1 B26).1; omega
 have o49 : N31 + nbT (rowsC encPacket (vOutAgain x0)) ≤ N40 := by have := a35.2.1; omega
 replace B1 := blk_grow B1 X41
 replace a17 := a17.grow X41
 replace a23 := a23.grow X41
 replace B26 := blk_grow B26 X41
 replace a35 := a35.grow X41
 refine lm_eq rfl (vcons (a23.vw (okWOut 4 (x0))) (vcons (a44.vw (okWOut 4 (x0))) vnil)) (eqF_Out (n + 24) (by omega) _ (x0) s3w) ?_
 refine lm_not ?_
 refine lm_cf ?_
 refine lw_ld B26 (a23.len.trans (lenOut _)) ?_
 refine lm_markv (mk_OutV (n + 25) (by omega)) rfl a23 (wfvOut _ s3) (by omega) (by omega) fun G50 a52 q51 => ?_
 replace B1 := blk_kept B1 q51 (by omega)
 replace a17 := a17.kept q51 (by omega)
 replace a35 := a35.kept q51 (by omega)
 refine lm_neg (by omega) ?_
 refine lm_gf ?_
 refine lm_gf ?_
 refine lm_gf ?_
 refine lm_eq rfl (vcons (a35.vw (okW_rows (d := 7) lenPacket tyPacketS (okWPacket 5) (vOutAgain x0))) (vcons (a17.vw (okW_rows (d := 7) lenPacket tyPacketS (okWPacket 5) (vOutAgain x0))) vnil)) (eqF_PacketS (n + 25) (by omega) _ (vOutAgain x0) s6w) ?_
 refine lm_gf ?_
 refine lm_not ?_
 refine lm_pk ?_
 refine lm_cf ?_
 refine lm_mark (fs := mfPacketS) (t := (rowsC encPacket (vOutAgain x0))) (mk_PacketS (n + 26) (by omega)) ⟨_, _, rfl⟩ a35 (wf_rows _ s6.1 fun y hy => wfPacket y (s6.2 y hy)) (by omega) (by omega) fun G53 a55 q54 => ?_
 replace B1 := blk_kept B1 q54 (by omega)
 replace a17 := a17.kept q54 (by omega)
 refine lm_held (fs := mfPacketS) (t := (rowsC encPacket (vOutAgain x0))) (hd_PacketS (n + 26) (by omega)) ⟨_, _, rfl⟩ (a55.vw (okW_mk 8 _ _ _ _ (okW_rows (d := 7) lenPacket tyPacketS (okWPacket 5) (vOutAgain x0)))) (wf_rows _ s6.1 fun y hy => wfPacket y (s6.2 y hy)) (by omega) (by omega) ?_
 refine lm_neI ?_
 refine lm_cf ?_
 refine lw_ld B1 (lenOut x0) ?_
 refine lm_agg rfl (vcons (Vw_agg _ (flOut x0)) vnil) (toF_Out (n + 24) (by omega) x0 (by omega)) tyOut fun y59 X57 N56 n58 a60 => ?_
 have o61 : N13 + nbT (rowsC encPacket (vOutAgain x0)) ≤ N56 := by have := a17.2.1; omega
 have o62 : N31 + nbT (rowsC encPacket (vOutAgain x0)) ≤ N56 := by have := a55.2.1; rw [mkF_nb] at this; omega
 replace a17 := a17.grow X57
 replace a55 := a55.grow X57
 refine lm_tree rfl (vcons (a60.vw (okWOut 4 (x0))) vnil) (implF_OutAgain (n + 16) (by omega) x0 k0 (by omega)) fun y66 X64 N63 n65 a67 => ?_
 have o68 : N13 + nbT (rowsC encPacket (vOutAgain x0)) ≤ N63 := by have := a17.2.1; omega
 have o69 : N31 + nbT (rowsC encPacket (vOutAgain x0)) ≤ N63 := by have := a55.2.1; rw [mkF_nb] at this; omega
 replace a17 := a17.grow X64
 replace a55 := a55.grow X64
 refine lm_eq rfl (vcons (a67.vw (okW_rows (d := 7) lenPacket tyPacketS (okWPacket 5) (vOutAgain x0))) (vcons (a17.vw (okW_rows (d := 7) lenPacket tyPacketS (okWPacket 5) (vOutAgain x0))) vnil)) (eqF_PacketS (n + 25) (by omega) _ (vOutAgain x0) s6w) ?_
 refine lm_not ?_
 refine lm_cf ?_
 refine lm_held (fs := mfPacketS) (t := (rowsC encPacket (vOutAgain x0))) (hd_PacketS (n + 26) (by omega)) ⟨_, _, rfl⟩ (a55.vw (okW_mk 8 _ _ _ _ (okW_rows (d := 7) lenPacket tyPacketS (okWPacket 5) (vOutAgain x0)))) (wf_rows _ s6.1 fun y hy => wfPacket y (s6.2 y hy)) (by omega) (by omega) ?_
 refine lm_neI ?_
 refine lm_cf ?_
 rfl
end Go.Proofs.YtejjggnchdldoaaGreatDoor.Abs
namespace Go.Proofs.YtejjggnchdldoaaGreatDoor.fnExactOutAgain
open Go Go.Shelf Go.Lib Go.ChangeShapes Go.WideShapes Go.ChangeAt Go.RowKit
open Go.Proofs.YtejjggnchdldoaaGreatDoor.Abs
set_option linter.unusedVariables false
theorem own : ownKnob Tryz.prog.godebug = none := by kernel_rfl
theorem laidOut : laidOutB Tryz.prog = true := by kernel_rfl
theorem types : ([25].all (tyB ti0 14)) = true := by kernel_rfl
theorem readable : ([25].all fun t => Tryz.prog.readableRec t && decide (t < Tryz.prog.types.size)) = true := by kernel_rfl
theorem pure_ {xs : List AV} (h : okAs ti0 14 [25] xs) : ∃ n, tree E0 n 4 6 xs = some (.sc (.bool true)) := by
 obtain ⟨y0, ys0, rfl, ⟨cs0, h0, rfl⟩, h⟩ := h
 obtain rfl := h
 obtain ⟨x0, rfl, k0⟩ := okT_Out h0
 exact ⟨_, law_OutAgain 1048577 (by omega) x0 k0⟩
def wArgs : Array Value := #[.agg #[.int .i64 0, .slice none 0 0, .slice none 0 0]]
noncomputable def laidWorld (os : Os) : World :=
 let w0 := World.holding Tryz.prog os ⟨#[], #[], []⟩
 let put (h : Array Obj) (g : Nat) (cs : Array Value) : Array Obj := h.modify g fun
  | .cells _ t frozen => .cells cs t frozen
  | o => o
 let h1 := put w0.heap 0 (Lib.firstTab.map fun z => Value.int .u8 z).toArray
 let h2 := put h1 1 ((List.range 16).flatMap fun i => [Value.int .u8 (Lib.accLo i), Value.int .u8 (Lib.accHi i)]).toArray
 { w0 with heap := h2 }
theorem laid_met (os : Os) (args : Array Value) : laidMet Tryz.prog Rows.fnExactOutAgainRow.laid ((laidWorld os).forCall (fun _ _ => 0) ⟨#[], args, []⟩).memory :=
 (LaidIn.of_run (l := Rows.fnExactOutAgainRow.laid) [0, 1] 8 (by kernel_rfl) (by kernel_rfl) (by kernel_rfl) (by kernel_rfl)).met
set_option maxRecDepth 100000 in
theorem witness_row (os : Os) {H : Type} (enc : TypeId × Value → H) :
  (OpenSpec.ofChange Rows.fnExactOutAgainSpec).preRow enc Tryz.prog Tryz.f6 Rows.fnExactOutAgainRow.domain false Rows.fnExactOutAgainRow.laid ((laidWorld os).forCall (fun _ _ => 0) ⟨#[], wArgs, []⟩).memory wArgs := by
 have hw : ((DataW.whole enc Tryz.prog ((laidWorld os).forCall (fun _ _ => 0) ⟨#[], wArgs, []⟩).memory Tryz.f6.params.toList (OpenSpec.ofChange Rows.fnExactOutAgainSpec).vars false wArgs.toList 8).map (fun x => x.2.1)) = some [] := by kernel_rfl
 obtain ⟨⟨x1, x2, x3⟩, hx, hx1⟩ := Option.map_eq_some_iff.1 hw
 simp only at hx1
 subst hx1
 exact OpenSpec.preRow_of_cond 8 hx rfl (fun k hk => by cases hk) rfl (laid_met os _)
set_option maxRecDepth 100000 in
set_option maxHeartbeats 2000000 in
theorem lifted (os : Os) (started : os.Started) (H : Type) (enc : TypeId × Value → H) (F : Stop.Interp) :
  ReturnsInHanded {} Tryz.checked os 6 .any ((OpenSpec.ofChange Rows.fnExactOutAgainSpec).preRow enc Tryz.prog Tryz.f6 Rows.fnExactOutAgainRow.domain false Rows.fnExactOutAgainRow.laid) (((OpenSpec.ofChange Rows.fnExactOutAgainSpec).at F).post enc Tryz.prog Tryz.f6 false true false false) := by
 refine returnsInHanded_of_row (C := Tryz.checked) (s := OpenSpec.ofChange Rows.fnExactOutAgainSpec) own started (by kernel_rfl) Tryz.func6
  (witness_row_atRef (enc := enc) (C := Tryz.checked) false (laidWorld os) wArgs rfl (by kernel_rfl) (by kernel_rfl) (by kernel_rfl) (witness_row os enc)) ?_
 intro W base args ds gs before hval0 hW _ _ _ hL hS _
 have hval : ∀ (j : Nat) t v, Tryz.f6.params[j]? = some t → args[j]? = some v → Value.okWide Tryz.prog W .any base t v := hval0
 have hW' := hW
 obtain ⟨p, q, hA0, hV, rfl, hfz, hnd⟩ := hW
 have hA : DataW.TrodAll enc Tryz.prog W 0 (fun _ => true) true Tryz.f6.params.toList args.toList ds p := hA0
 rw [Tryz.params6] at hA hval
 obtain ⟨xs, hok, hl, hx⟩ := args_sound tabOk0 (n := 14) [25] args.toList ds p hA (fun j t v ht hv => hval j t v (by simpa using ht) (by simpa using hv)) types
 obtain ⟨m, hm⟩ := pure_ hok
 have htab0 := utf8Tabs_of_readsT (U8Types.of196 Tryz.laysValid) ⟨by kernel_rfl, by kernel_rfl, by kernel_rfl, by kernel_rfl, by kernel_rfl, by kernel_rfl, by kernel_rfl⟩ (Pinned.utf8First_eq ▸ Lib.laidMet.reads hL (.tail _ (.head _))) (Lib.laidMet.reads hL (.head _))
 have htab : J0 W := ⟨htab0, cell_of_shapedOpen_int (zero := #[.int .i64 0]) hS (of_decide_eq_true (by kernel_rfl)) (by kernel_rfl) rfl (by kernel_rfl) (by kernel_rfl) Tryz.underlying3⟩
 have hc := tree_bool env0 hm (w := W) htab hl hx
 have hA1 := hA
 obtain ⟨v0, vs0, d0, ds0, p0, q0, hargs, rfl, rfl, g0, r0⟩ := trodAll_cons hA
 obtain ⟨rfl, rfl, rfl⟩ := trodAll_nil r0
 obtain ⟨rfl, rfl⟩ := trodVars_none hV
 have hc2 : Calls Tryz.prog 6 args W fun e W' => e = .returned (.bool true) ∧ Below W.heap.size W W' := by simpa using hc
 refine hc2.mono fun e W' ⟨he, bel⟩ => ?_
 subst he
 exact ⟨_, rfl, _, _, _, [], _, [], hW', trodAll_mk1 (shut_bool Tryz.underlying4 _), trodAll_stays laidOut bel readable hA1, rfl, bel.frame _, fun h => by cases h⟩
theorem over : Rows.FnExactOutAgainSaid :=
 OpenClaim.holds_of_cond 6 Tryz.f6 rfl rfl rfl rfl rfl rfl rfl ⟨rfl, rfl, rfl, rfl, rfl⟩ rfl rfl rfl rfl rfl (by kernel_rfl) Tryz.func6 (by kernel_rfl)
  (of_decide_eq_true (by kernel_rfl)) (by unfold Func.isWrapper; first | (rw [if_pos (by decide +kernel)]; kernel_rfl) | (rw [if_neg (by decide +kernel)]; exact ⟨rfl, rfl⟩))
  (fun os started H enc _ F0 => by rw [OpenClaim.pre_eq_preRow]; exact lifted os started H enc F0)
theorem proved : Rows.FnExactOutAgainCardSaid :=
 Claim7.holds_tied_plain_at .later [] [.data, .pinned] true (true, "0b981df1f78d83cf6eab563b0e01612db015e5c1bdfb88f173750d5b1c733910") false
  over (fun _ h => by cases h) (by kernel_rfl) (fun _ h => by cases h) fnExactOutAgain_row_tie rfl ⟨rfl, rfl⟩ (by kernel_rfl) rfl
  (fun f fn hf hfn => by
   obtain rfl : f = 6 := Option.some.inj ((show Tryz.prog.funcNamed "loop.example/g00480/laws.FnExactOutAgain" = some 6 by kernel_rfl).symm.trans hf) |>.symm
   obtain rfl : fn = Tryz.f6 := (Option.some.inj (Tryz.func6.symm.trans hfn)).symm
   exact ⟨by kernel_rfl, fun j t ht => by
    rw [Tryz.params6] at ht
    have hm : t ∈ [25] := by simpa using Array.mem_of_getElem? ht
    have hall : ([25].all fun u => !Tryz.prog.wantsStandIn u) = true := by kernel_rfl
    exact (show Tryz.prog.wantsStandIn t = false by simpa using List.all_eq_true.1 hall t hm)⟩)
  (by kernel_rfl)
#print axioms proved
end Go.Proofs.YtejjggnchdldoaaGreatDoor.fnExactOutAgain
namespace Go.Proofs.YtejjggnchdldoaaGreatDoor
theorem fnExactOutAgain_holds : Rows.FnExactOutAgainCardSaid := fnExactOutAgain.proved
end Go.Proofs.YtejjggnchdldoaaGreatDoor
