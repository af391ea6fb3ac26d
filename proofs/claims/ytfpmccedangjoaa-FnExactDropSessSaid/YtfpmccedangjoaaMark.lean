/- What the laws' own functions write into what they are handed: as trees. -/
import Derived.Test.YtfpmccedangjoaaOwn
set_option linter.unusedVariables false
set_option linter.unusedSimpArgs false
namespace Go.Proofs.Ytfpmccedangjoaa.Abs
open Go

/-- What is written of a cell: a text, a number, a truth, a byte; nothing; each element of a slice, whose cells are such. -/
inductive MF where
  | str
  | int
  | bool
  | byt
  | skip
  | sub (fs : List MF)

def repF (n : Nat) (fs : List MF) : List MF := (List.replicate n fs).flatten
theorem repF_succ (n : Nat) (fs : List MF) : repF (n + 1) fs = fs ++ repF n fs := by rw [repF, List.replicate_succ, List.flatten_cons, repF]
theorem repF_len (n : Nat) (fs : List MF) : (repF n fs).length = n * fs.length := by simp [repF]

/-- The digits of a number, ahead of what is there. -/
def digs (k : Nat) (out : ByteArray) : ByteArray := if h : k = 0 then out else digs (k / 10) (⟨#[UInt8.ofNat (48 + k % 10)]⟩ ++ out)
termination_by k
decreasing_by omega
/-- The text that is written for a number. -/
def mTxt (k : Int) : ByteArray := ⟨#[109]⟩ ++ (if k ≤ 0 then ⟨#[48]⟩ else digs k.toNat ⟨#[]⟩)

mutual
def mkF (f : MF) (k : Int) : AV → AV × Int
  | .sc v =>
    match f with
    | .str => (.sc (.string (mTxt k)), k + 1)
    | .int => (.sc (.int .i64 k), k + 1)
    | .bool => (.sc (.bool (k.tmod 3 == 0)), k + 1)
    | .byt => (.sc (.int .u8 (IntKind.u8.wrap k)), k + 1)
    | _ => (.sc v, k)
  | .ro n cells =>
    match f with
    | .sub fs => (.ro n (mkL (repF n fs) k cells).1, (mkL (repF n fs) k cells).2)
    | _ => (.ro n cells, k)
  | x => (x, k)
def mkL (fs : List MF) (k : Int) : List AV → List AV × Int
  | [] => ([], k)
  | c :: cs => ((mkF (fs.headD .skip) k c).1 :: (mkL fs.tail (mkF (fs.headD .skip) k c).2 cs).1, (mkL fs.tail (mkF (fs.headD .skip) k c).2 cs).2)
end
mutual
def cntF (f : MF) : AV → Nat
  | .sc v =>
    match f with
    | .skip => 0
    | .sub _ => 0
    | _ => 1
  | .ro n cells =>
    match f with
    | .sub fs => cntL (repF n fs) cells
    | _ => 0
  | _ => 0
def cntL (fs : List MF) : List AV → Nat
  | [] => 0
  | c :: cs => cntF (fs.headD .skip) c + cntL fs.tail cs
end
mutual
/-- A tree of this shape, none of whose lists is too long. -/
def wfF (f : MF) : AV → Prop
  | .sc v =>
    match f, v with
    | .str, .string _ => True
    | .int, .int .i64 _ => True
    | .bool, .bool _ => True
    | .byt, .int .u8 _ => True
    | .skip, v => leafV v = true
    | _, _ => False
  | .ro n cells =>
    match f with
    | .sub fs => n ≤ 1048576 ∧ cells.length = n * fs.length ∧ wfL (repF n fs) cells
    | _ => False
  | _ => False
def wfL (fs : List MF) : List AV → Prop
  | [] => fs = []
  | c :: cs => fs ≠ [] ∧ wfF (fs.headD .skip) c ∧ wfL fs.tail cs
end
mutual
/-- How many blocks a tree takes. -/
def nbT : AV → Nat
  | .ro _ cells => 1 + nbL cells
  | .agg cs => nbL cs
  | .tup cs => nbL cs
  | _ => 0
def nbL : List AV → Nat
  | [] => 0
  | c :: cs => nbT c + nbL cs
end

section lists
theorem mkL_cons (f : MF) (fs : List MF) (k : Int) (c : AV) (cs : List AV) : mkL (f :: fs) k (c :: cs) = ((mkF f k c).1 :: (mkL fs (mkF f k c).2 cs).1, (mkL fs (mkF f k c).2 cs).2) := rfl
theorem mkL_append : ∀ (A B : List MF) (k : Int) (X Y : List AV), A.length = X.length → mkL (A ++ B) k (X ++ Y) = ((mkL A k X).1 ++ (mkL B (mkL A k X).2 Y).1, (mkL B (mkL A k X).2 Y).2)
  | [], B, k, [], Y, _ => by simp [mkL]
  | f :: A, B, k, x :: X, Y, h => by
    have ih := mkL_append A B (mkF f k x).2 X Y (by simpa using h)
    rw [List.cons_append, List.cons_append, mkL_cons, mkL_cons, ih]
    rfl
theorem cntL_append : ∀ (A B : List MF) (X Y : List AV), A.length = X.length → cntL (A ++ B) (X ++ Y) = cntL A X + cntL B Y
  | [], B, [], Y, _ => by simp [cntL]
  | f :: A, B, x :: X, Y, h => by
    have ih := cntL_append A B X Y (by simpa using h)
    show cntF f x + cntL (A ++ B) (X ++ Y) = cntF f x + cntL A X + cntL B Y
    rw [ih, Nat.add_assoc]
theorem wfL_cons {f : MF} {fs : List MF} {c : AV} {cs : List AV} : wfL (f :: fs) (c :: cs) ↔ wfF f c ∧ wfL fs cs := by
  show (f :: fs ≠ [] ∧ wfF f c ∧ wfL fs cs) ↔ _
  simp
theorem wfL_len : ∀ {fs : List MF} {cs : List AV}, wfL fs cs → fs.length = cs.length
  | fs, [], h => by
    have : fs = [] := h
    rw [this]
    rfl
  | [], _ :: _, h => absurd rfl h.1
  | f :: fs, c :: cs, h => by
    have := wfL_len (wfL_cons.1 h).2
    simp [this]
theorem wfL_append : ∀ {A B : List MF} {X Y : List AV}, A.length = X.length → (wfL (A ++ B) (X ++ Y) ↔ wfL A X ∧ wfL B Y)
  | [], B, [], Y, _ => by
    show _ ↔ (([] : List MF) = [] ∧ _)
    simp
  | f :: A, B, x :: X, Y, h => by
    have ih := wfL_append (A := A) (B := B) (X := X) (Y := Y) (by simpa using h)
    rw [List.cons_append, List.cons_append, wfL_cons, wfL_cons, ih, and_assoc]
mutual
theorem mkF_cnt : ∀ (x : AV) (f : MF) (k : Int), (mkF f k x).2 = k + cntF f x
  | .sc v, f, k => by cases f <;> simp [mkF, cntF]
  | .ro n cells, f, k => by
    cases f <;> first | (simp [mkF, cntF]; done) | exact mkL_cnt cells _ k
  | .agg cs, f, k => by simp [mkF, cntF]
  | .tup cs, f, k => by simp [mkF, cntF]
  | .any, f, k => by simp [mkF, cntF]
  | .nl, f, k => by simp [mkF, cntF]
  | .sl .., f, k => by simp [mkF, cntF]
  | .ptr .., f, k => by simp [mkF, cntF]
  | .rp .., f, k => by simp [mkF, cntF]
  | .fn .., f, k => by simp [mkF, cntF]
theorem mkL_cnt : ∀ (cs : List AV) (fs : List MF) (k : Int), (mkL fs k cs).2 = k + cntL fs cs
  | [], fs, k => by simp [mkL, cntL]
  | c :: cs, fs, k => by
    show (mkL fs.tail (mkF (fs.headD .skip) k c).2 cs).2 = k + ((cntF (fs.headD .skip) c + cntL fs.tail cs : Nat) : Int)
    rw [mkL_cnt cs, mkF_cnt c]
    omega
end
theorem mkL_len : ∀ (cs : List AV) (fs : List MF) (k : Int), (mkL fs k cs).1.length = cs.length
  | [], fs, k => by simp [mkL]
  | c :: cs, fs, k => by
    show (mkL fs.tail _ cs).1.length + 1 = cs.length + 1
    rw [mkL_len cs]
mutual
theorem mkF_nb : ∀ (x : AV) (f : MF) (k : Int), nbT (mkF f k x).1 = nbT x
  | .sc v, f, k => by cases f <;> rfl
  | .ro n cells, f, k => by
    cases f <;> first | rfl | (show 1 + nbL _ = 1 + nbL _; rw [mkL_nb cells])
  | .agg cs, f, k => by simp [mkF]
  | .tup cs, f, k => by simp [mkF]
  | .any, f, k => by simp [mkF]
  | .nl, f, k => by simp [mkF]
  | .sl .., f, k => by simp [mkF]
  | .ptr .., f, k => by simp [mkF]
  | .rp .., f, k => by simp [mkF]
  | .fn .., f, k => by simp [mkF]
theorem mkL_nb : ∀ (cs : List AV) (fs : List MF) (k : Int), nbL (mkL fs k cs).1 = nbL cs
  | [], fs, k => by simp [mkL]
  | c :: cs, fs, k => by
    show nbT (mkF (fs.headD .skip) k c).1 + nbL (mkL fs.tail _ cs).1 = nbT c + nbL cs
    rw [mkF_nb c, mkL_nb cs]
end
mutual
theorem inst_nb {ti : Nat → Option TI} {tp : Nat → Option (List Nat)} : ∀ (x : AV) (N ty : Nat), (instT ti tp N ty x).2.length = nbT x
  | .sc v, N, ty => rfl
  | .ro n cells, N, ty => by
    simp only [instT, List.length_cons, nbT, instL_nb cells, Nat.add_comm]
  | .agg cs, N, ty => instL_nb cs _ _
  | .tup cs, N, ty => instL_nb cs _ _
  | .any, N, ty => rfl
  | .nl, N, ty => rfl
  | .sl .., N, ty => rfl
  | .ptr .., N, ty => rfl
  | .rp .., N, ty => rfl
  | .fn .., N, ty => rfl
theorem instL_nb {ti : Nat → Option TI} {tp : Nat → Option (List Nat)} : ∀ (cs : List AV) (N : Nat) (ts : List Nat), (instL ti tp N ts cs).2.length = nbL cs
  | [], N, ts => rfl
  | c :: cs, N, ts => by
    simp only [instL, List.length_append, nbL, inst_nb c, instL_nb cs]
end
theorem nbL_append : ∀ (X Y : List AV), nbL (X ++ Y) = nbL X + nbL Y
  | [], Y => by simp [nbL]
  | c :: X, Y => by
    show nbT c + nbL (X ++ Y) = nbT c + nbL X + nbL Y
    rw [nbL_append X Y, Nat.add_assoc]
/-- What lies about one cell. -/
theorem inst_mid {ti : Nat → Option TI} {tp : Nat → Option (List Nat)} (TP TS : List Nat) (t : Nat) (P S : List AV) (c : AV) (N : Nat) (h : TP.length = P.length) :
    instL ti tp N (TP ++ t :: TS) (P ++ c :: S) = ((instL ti tp N TP P).1 ++ (instT ti tp (N + nbL P) t c).1 :: (instL ti tp (N + nbL P + nbT c) TS S).1, (instL ti tp N TP P).2 ++ ((instT ti tp (N + nbL P) t c).2 ++ (instL ti tp (N + nbL P + nbT c) TS S).2)) := by
  rw [instL_append TP P (t :: TS) (c :: S) N h, instL_nb]
  have e : instL ti tp (N + nbL P) (t :: TS) (c :: S) = ((instT ti tp (N + nbL P) t c).1 :: (instL ti tp (N + nbL P + nbT c) TS S).1, (instT ti tp (N + nbL P) t c).2 ++ (instL ti tp (N + nbL P + nbT c) TS S).2) := by
    rw [instL, inst_nb]
    rfl
  rw [e]
end lists

section steps
variable {β : Type} {n : Nat} {r : Option β}

/-- The blocks of a slice: its own, then what its cells lead to. -/
noncomputable def SB (N : Nat) (T : List Nat) (cells : List AV) : List Blk := ⟨(instL ti0 E0.tp (N + 1) T cells).1, true, true⟩ :: (instL ti0 E0.tp (N + 1) T cells).2
theorem inst_SB {ty len : Nat} {cells : List AV} {i j : TI} (h1 : ti0 ty = some i) (h2 : ti0 i.elem = some j) (N : Nat) : instT ti0 E0.tp N ty (.ro len cells) = (.sl N 0 len j.size, SB N (List.replicate len j.cty).flatten cells) := by
  simp only [instT, h1, Option.bind_some, h2, Option.getD_some]
  rfl
/-- A value is stored over a value. -/
theorem sb_store {A C : Heap} {TP TS : List Nat} {t p : Nat} {P S : List AV} {v0 v : Value} (hT : TP.length = P.length) (hv : leafV v = true) (hp : p = P.length) (K : Heap → Option β) :
    pStore 1 (.ptr A.length p) (.sc v) (A ++ (SB A.length (TP ++ t :: TS) (P ++ .sc v0 :: S) ++ C)) K = K (A ++ (SB A.length (TP ++ t :: TS) (P ++ .sc v :: S) ++ C)) := by
  have hc : cellsA (.sc v) = some [.sc v] := by simp only [cellsA, isLeaf, hv, if_true]
  have hl : (instL ti0 E0.tp (A.length + 1) TP P).1.length = P.length := instL_len _ _ _
  simp only [SB, inst_mid TP TS t P S _ _ hT, instT_sc, nbT, List.cons_append]
  rw [st_at 1 A.length p (.sc v) _ _ _ _ (get_at A _ _) hc rfl (by simp [hl, hp]) rfl, set_at]
  have := splice_mid (instL ti0 E0.tp (A.length + 1) TP P).1 [.sc v0] (instL ti0 E0.tp (A.length + 1 + nbL P + 0) TS S).1 [.sc v] rfl
  simp only [List.singleton_append, hl] at this
  rw [hp, this]
/-- A cell is read. -/
theorem sb_load {A C : Heap} {TP TS : List Nat} {t p : Nat} {P S : List AV} {c : AV} (hT : TP.length = P.length) (hp : p = P.length) (K : AV → Option β) :
    pLoad false 1 (.ptr A.length p) (A ++ (SB A.length (TP ++ t :: TS) (P ++ c :: S) ++ C)) K = K (instT ti0 E0.tp (A.length + 1 + nbL P) t c).1 := by
  have hl : (instL ti0 E0.tp (A.length + 1) TP P).1.length = P.length := instL_len _ _ _
  simp only [SB, inst_mid TP TS t P S _ _ hT, List.cons_append]
  refine ldF ?_ K
  have : p + 1 ≤ ((instL ti0 E0.tp (A.length + 1) TP P).1 ++ (instT ti0 E0.tp (A.length + 1 + nbL P) t c).1 :: (instL ti0 E0.tp (A.length + 1 + nbL P + nbT c) TS S).1).length := by simp [hl, hp]
  simp only [rdCells, get_at, if_true, this]
  rw [hp, ← hl, List.drop_append_of_le_length (Nat.le_refl _), List.drop_length]
  rfl

/-- What a function writes: its argument's tree turns, what lies about it stays, some memory is added. -/
def MarkC (n f ty : Nat) (t t' : AV) (k k' : Int) : Prop := ∀ (β : Type) (A C : Heap) (K : AV → Heap → Option β) (r : Option β),
  (∀ X, K (.sc (.int .i64 k')) (A ++ ((instT ti0 E0.tp A.length ty t').2 ++ (C ++ X))) = r) → evalFn E0 n β f [(instT ti0 E0.tp A.length ty t).1, .sc (.int .i64 k)] (A ++ ((instT ti0 E0.tp A.length ty t).2 ++ C)) K = r
theorem PR_hm {ty : Nat} {f : FuncId} {args : List AV} {H : Heap} {K : AV → Heap → Option β} (hh : E0.hm f = true) (hx : E0.ext f = none) : (PR n β).call ty (.fn f [] []) args H K = evalFn E0 n β f args H K := by
  show callF E0 (evalFn E0 n) ty f ([] ++ args ++ []) H K = _
  simp only [callF, hx, hh, List.nil_append, List.append_nil, if_true]

/-- A cell that is a slice: it is read, what it leads to is written. -/
theorem ms_sub {A C : Heap} {TP TS : List Nat} {t p ty g : Nat} {P S : List AV} {c c' : AV} {k k' : Int} {K : AV → Heap → Option β} (hT : TP.length = P.length) (hp : p = P.length) (hh : E0.hm g = true) (hx : E0.ext g = none) (hmk : MarkC n g t c c' k k') (hs : ∀ M, (instT ti0 E0.tp M t c').1 = (instT ti0 E0.tp M t c).1) (hn : nbT c' = nbT c)
    (h : ∀ X, K (.sc (.int .i64 k')) (A ++ (SB A.length (TP ++ t :: TS) (P ++ c' :: S) ++ (C ++ X))) = r) :
    (pLoad false 1 (.ptr A.length p) (A ++ (SB A.length (TP ++ t :: TS) (P ++ c :: S) ++ C)) fun v => (PR n β).call ty (.fn g [] []) [v, .sc (.int .i64 k)] (A ++ (SB A.length (TP ++ t :: TS) (P ++ c :: S) ++ C)) K) = r := by
  rw [sb_load hT hp, PR_hm hh hx]
  have e : ∀ (d : AV) (D : Heap), A ++ (SB A.length (TP ++ t :: TS) (P ++ d :: S) ++ D) = (A ++ ⟨(instL ti0 E0.tp (A.length + 1) TP P).1 ++ (instT ti0 E0.tp (A.length + 1 + nbL P) t d).1 :: (instL ti0 E0.tp (A.length + 1 + nbL P + nbT d) TS S).1, true, true⟩ :: (instL ti0 E0.tp (A.length + 1) TP P).2) ++ ((instT ti0 E0.tp (A.length + 1 + nbL P) t d).2 ++ ((instL ti0 E0.tp (A.length + 1 + nbL P + nbT d) TS S).2 ++ D)) := by
    intro d D
    simp only [SB, inst_mid TP TS t P S _ _ hT, List.cons_append, List.append_assoc]
  have hN : ∀ b : Blk, (A ++ b :: (instL ti0 E0.tp (A.length + 1) TP P).2).length = A.length + 1 + nbL P := by
    intro b
    rw [List.length_append, List.length_cons, instL_nb]
    omega
  rw [e c C]
  have key := hmk β (A ++ ⟨(instL ti0 E0.tp (A.length + 1) TP P).1 ++ (instT ti0 E0.tp (A.length + 1 + nbL P) t c).1 :: (instL ti0 E0.tp (A.length + 1 + nbL P + nbT c) TS S).1, true, true⟩ :: (instL ti0 E0.tp (A.length + 1) TP P).2) ((instL ti0 E0.tp (A.length + 1 + nbL P + nbT c) TS S).2 ++ C) K r
  rw [hN] at key
  refine key fun X => ?_
  have h2 := h X
  rw [e c' (C ++ X), hs, hn] at h2
  simp only [List.append_assoc, List.cons_append] at h2 ⊢
  exact h2
end steps

/-! The functions themselves: what is written, field by field. -/
structure FD where
  f : MF
  path : List Nat
  g : FuncId

/-- A text that is written for a number. -/
def TxtOk (n tS g : Nat) : Prop := plainF g = false ∧ ∀ k : Int, 0 ≤ k → k ≤ 4611686018427387904 → tree E0 n tS g [.sc (.int .i64 k)] = some (.sc (.string (mTxt k)))
/-- A function that writes into a slice. -/
def MarkOk (n g ty : Nat) (fs : List MF) : Prop := E0.hm g = true ∧ E0.ext g = none ∧ (∃ i j, ti0 ty = some i ∧ ti0 i.elem = some j) ∧ ∀ (len : Nat) (cells : List AV) (k : Int), wfF (.sub fs) (.ro len cells) → 0 ≤ k → k + cntF (.sub fs) (.ro len cells) ≤ 4611686018427387904 →
  MarkC n g ty (.ro len cells) (mkF (.sub fs) k (.ro len cells)).1 k (mkF (.sub fs) k (.ro len cells)).2
/-- A function that reads what was written. -/
def HeldOk (n g : Nat) (fs : List MF) : Prop := plainF g = false ∧ ∀ (ty len : Nat) (cells : List AV) (k : Int), wfF (.sub fs) (.ro len cells) → 0 ≤ k → k + cntF (.sub fs) (.ro len cells) ≤ 4611686018427387904 →
  tree E0 n ty g [(mkF (.sub fs) k (.ro len cells)).1, .sc (.int .i64 k)] = some (.sc (.int .i64 (mkF (.sub fs) k (.ro len cells)).2))
def subM (n t g : Nat) : MF → Prop
  | .sub fs => MarkOk n g t fs
  | _ => True
def subH (n g : Nat) : MF → Prop
  | .sub fs => HeldOk n g fs
  | _ => True
/-- The fields lie one behind the other. -/
def FdsM (n : Nat) : Nat → List FD → List Nat → Prop
  | off, fd :: r, t :: ts => fd.path.sum = off ∧ subM n t fd.g fd.f ∧ FdsM n (off + 1) r ts
  | _, [], [] => True
  | _, _, _ => False
def FdsH (n : Nat) : Nat → List FD → Prop
  | off, fd :: r => fd.path.sum = off ∧ subH n fd.g fd.f ∧ FdsH n (off + 1) r
  | _, [] => True

section fns
variable {β : Type}
def fadrs (p : Pr β) : List Nat → AV → (AV → Option β) → Option β
  | [], x, K => K x
  | o :: r, x, K => p.fadr o x fun t => fadrs p r t K
def bodyM (p : Pr β) (tS tI gT w : Nat) (a i : AV) : List FD → AV → Heap → (AV → Heap → Option β) → Option β
  | [], k, H, K => K k H
  | ⟨.str, path, _⟩ :: r, k, H, K => p.call tS (.fn gT [] []) [k] H fun s H => p.iadr w a i fun t => fadrs p path t fun t => p.store 1 t s H fun H => p.bin .add k (.sc (.int .i64 1)) fun k => bodyM p tS tI gT w a i r k H K
  | ⟨.int, path, _⟩ :: r, k, H, K => p.iadr w a i fun t => fadrs p path t fun t => p.store 1 t k H fun H => p.bin .add k (.sc (.int .i64 1)) fun k => bodyM p tS tI gT w a i r k H K
  | ⟨.bool, path, _⟩ :: r, k, H, K => p.bin .rem k (.sc (.int .i64 3)) fun q => p.bin .eql q (.sc (.int .i64 0)) fun b => p.iadr w a i fun t => fadrs p path t fun t => p.store 1 t b H fun H => p.bin .add k (.sc (.int .i64 1)) fun k => bodyM p tS tI gT w a i r k H K
  | ⟨.byt, path, _⟩ :: r, k, H, K => p.cvI .u8 k fun c => p.iadr w a i fun t => fadrs p path t fun t => p.store 1 t c H fun H => p.bin .add k (.sc (.int .i64 1)) fun k => bodyM p tS tI gT w a i r k H K
  | ⟨.sub _, path, g⟩ :: r, k, H, K => p.iadr w a i fun t => fadrs p path t fun t => p.load false 1 t H fun v => p.call tI (.fn g [] []) [v, k] H fun k H => bodyM p tS tI gT w a i r k H K
  | ⟨.skip, _, _⟩ :: r, k, H, K => bodyM p tS tI gT w a i r k H K
def bodyH (p : Pr β) (tS tI gT w : Nat) (a i : AV) (F : Heap → Option β) : List FD → AV → Heap → (AV → Heap → Option β) → Option β
  | [], k, H, K => K k H
  | ⟨.str, path, _⟩ :: r, k, H, K => p.iadr w a i fun t => fadrs p path t fun t => p.load false 1 t H fun v => p.call tS (.fn gT [] []) [k] H fun s H => p.bin .neq v s fun b => p.cond b (F H) (p.bin .add k (.sc (.int .i64 1)) fun k => bodyH p tS tI gT w a i F r k H K)
  | ⟨.int, path, _⟩ :: r, k, H, K => p.iadr w a i fun t => fadrs p path t fun t => p.load false 1 t H fun v => p.bin .neq v k fun b => p.cond b (F H) (p.bin .add k (.sc (.int .i64 1)) fun k => bodyH p tS tI gT w a i F r k H K)
  | ⟨.bool, path, _⟩ :: r, k, H, K => p.iadr w a i fun t => fadrs p path t fun t => p.load false 1 t H fun v => p.bin .rem k (.sc (.int .i64 3)) fun q => p.bin .eql q (.sc (.int .i64 0)) fun e => p.binB .neq v e fun b => p.cond b (F H) (p.bin .add k (.sc (.int .i64 1)) fun k => bodyH p tS tI gT w a i F r k H K)
  | ⟨.byt, path, _⟩ :: r, k, H, K => p.iadr w a i fun t => fadrs p path t fun t => p.load false 1 t H fun v => p.cvI .u8 k fun c => p.bin .neq v c fun b => p.cond b (F H) (p.bin .add k (.sc (.int .i64 1)) fun k => bodyH p tS tI gT w a i F r k H K)
  | ⟨.sub _, path, g⟩ :: r, k, H, K => p.iadr w a i fun t => fadrs p path t fun t => p.load false 1 t H fun v => p.call tI (.fn g [] []) [v, k] H fun k H => p.bin .lss k (.sc (.int .i64 0)) fun b => p.cond b (F H) (bodyH p tS tI gT w a i F r k H K)
  | ⟨.skip, _, _⟩ :: r, k, H, K => bodyH p tS tI gT w a i F r k H K

variable {n : Nat} {res : Option β}
theorem fadrs_ptr : ∀ (path : List Nat) (id off : Nat) (K : AV → Option β), fadrs (PR n β) path (.ptr id off) K = K (.ptr id (off + path.sum))
  | [], id, off, K => rfl
  | o :: r, id, off, K => by
    show fadrs (PR n β) r (.ptr id (off + o)) K = _
    rw [fadrs_ptr r, List.sum_cons, Nat.add_assoc]
theorem fadrs_rp : ∀ (path : List Nat) (cells : List AV) (K : AV → Option β), fadrs (PR n β) path (.rp cells) K = K (.rp (cells.drop path.sum))
  | [], cells, K => by simp [fadrs]
  | o :: r, cells, K => by
    show fadrs (PR n β) r (.rp (cells.drop o)) K = _
    rw [fadrs_rp r, List.sum_cons, List.drop_drop]
theorem add1 (k : Int) (K : AV → Option β) (h0 : 0 ≤ k) (h1 : k ≤ 4611686018427387904) : pBin .add (.sc (.int .i64 k)) (.sc (.int .i64 1)) K = K (.sc (.int .i64 (k + 1))) := by
  show K (.sc (.int .i64 (IntKind.i64.wrap (k + 1)))) = _
  rw [wrap64 _ (by omega) (by omega)]
theorem rem3 (k : Int) (K : AV → Option β) : (pBin .rem (.sc (.int .i64 k)) (.sc (.int .i64 3)) fun q => pBin .eql q (.sc (.int .i64 0)) K) = K (.sc (.bool (k.tmod 3 == 0))) := rfl
theorem cv8 (k : Int) (K : AV → Option β) : pCvI .u8 (.sc (.int .i64 k)) K = K (.sc (.int .u8 (IntKind.u8.wrap k))) := rfl
theorem call_txt {tS gT : Nat} (h : TxtOk n tS gT) {k : Int} (h0 : 0 ≤ k) (h1 : k ≤ 4611686018427387904) (H : Heap) (K : AV → Heap → Option β) : (PR n β).call tS (.fn gT [] []) [.sc (.int .i64 k)] H K = K (.sc (.string (mTxt k))) H := by
  rw [PR_call (vs := [.sc (.int .i64 k)]) h.1 rfl (h.2 k h0 h1), instT_sc, List.append_nil]

/-- One element's fields are written. -/
theorem body_m {tS tI gT w len i : Nat} (hT : TxtOk n tS gT) (hi : i < len) : ∀ (todo : List FD) (off : Nat) (Q R S : List AV) (TP tR TS : List Nat) (k : Int) (A C : Heap) (K : AV → Heap → Option β),
    FdsM n off todo tR → TP.length = Q.length → Q.length = i * w + off → wfL (todo.map FD.f) R → 0 ≤ k → k + cntL (todo.map FD.f) R ≤ 4611686018427387904 →
    (∀ X, K (.sc (.int .i64 (mkL (todo.map FD.f) k R).2)) (A ++ (SB A.length (TP ++ (tR ++ TS)) (Q ++ ((mkL (todo.map FD.f) k R).1 ++ S)) ++ (C ++ X))) = res) →
    bodyM (PR n β) tS tI gT w (.sl A.length 0 len w) (.sc (.int .i64 i)) todo (.sc (.int .i64 k)) (A ++ (SB A.length (TP ++ (tR ++ TS)) (Q ++ (R ++ S)) ++ C)) K = res
  | [], off, Q, R, S, TP, tR, TS, k, A, C, K, hf, ht, hq, hw, h0, h1, h => by
    cases R with
    | nil =>
      have := h []
      simp only [List.append_nil] at this
      exact this
    | cons c R => exact absurd rfl hw.1
  | fd :: todo, off, Q, R, S, TP, tR, TS, k, A, C, K, hf, ht, hq, hw, h0, h1, h => by
    cases R with
    | nil => exact absurd (show fd.f :: todo.map FD.f = [] from hw) (by simp)
    | cons c R =>
    cases tR with
    | nil => exact hf.elim
    | cons t tR =>
    obtain ⟨hpath, hsub, hrest⟩ := hf
    obtain ⟨hwc, hwR⟩ := wfL_cons.1 hw
    have hpl : ∀ K' : AV → Option β, (pIadr w (.sl A.length 0 len w) (.sc (.int .i64 i)) fun t => fadrs (PR n β) fd.path t K') = K' (.ptr A.length Q.length) := fun K' => by
      rw [iadr_sl w _ _ _ _ _ hi, fadrs_ptr, hpath, hq, Nat.zero_add]
    have hcnt : cntL ((fd :: todo).map FD.f) (c :: R) = cntF fd.f c + cntL (todo.map FD.f) R := rfl
    have hmk : mkL ((fd :: todo).map FD.f) k (c :: R) = ((mkF fd.f k c).1 :: (mkL (todo.map FD.f) (mkF fd.f k c).2 R).1, (mkL (todo.map FD.f) (mkF fd.f k c).2 R).2) := rfl
    rw [hcnt] at h1
    rw [hmk] at h
    have e1 : ∀ (x : AV) (Y : List AV), Q ++ (x :: Y ++ S) = Q ++ x :: (Y ++ S) := fun x Y => rfl
    have e2 : ∀ (x : AV) (Y : List AV), Q ++ x :: (Y ++ S) = (Q ++ [x]) ++ (Y ++ S) := fun x Y => by simp
    have e3 : TP ++ (t :: tR ++ TS) = (TP ++ [t]) ++ (tR ++ TS) := by simp
    have e4 : TP ++ (t :: tR ++ TS) = TP ++ t :: (tR ++ TS) := rfl
    -- what is left is written behind this field
    have go : ∀ (c' : AV) (k' : Int) (C : Heap) (K : AV → Heap → Option β), 0 ≤ k' → k' + cntL (todo.map FD.f) R ≤ 4611686018427387904 →
        (∀ X, K (.sc (.int .i64 (mkL (todo.map FD.f) k' R).2)) (A ++ (SB A.length (TP ++ (t :: tR ++ TS)) (Q ++ (c' :: (mkL (todo.map FD.f) k' R).1 ++ S)) ++ (C ++ X))) = res) →
        bodyM (PR n β) tS tI gT w (.sl A.length 0 len w) (.sc (.int .i64 i)) todo (.sc (.int .i64 k')) (A ++ (SB A.length (TP ++ (t :: tR ++ TS)) (Q ++ c' :: (R ++ S)) ++ C)) K = res := by
      intro c' k' C K h0' h1' h'
      have := body_m (tI := tI) (w := w) hT hi todo (off + 1) (Q ++ [c']) R S (TP ++ [t]) tR TS k' A C K hrest (by simp [ht]) (by simp [hq]; omega) hwR h0' h1' (fun X => by
        have := h' X
        rw [e1, e2, e3] at this
        exact this)
      rw [e3, e2]
      exact this
    obtain ⟨f, path, g⟩ := fd
    cases f with
    | skip =>
      have hc : ∃ v, c = .sc v := by
        cases c <;> first | exact ⟨_, rfl⟩ | exact hwc.elim
      obtain ⟨v, rfl⟩ := hc
      exact go (.sc v) k C K h0 (by simpa [cntF] using h1) h
    | sub fs =>
      have hc : ∃ m cells, c = .ro m cells := by
        cases c with
        | ro m cells => exact ⟨m, cells, rfl⟩
        | sc v => exact hwc.elim
        | _ => exact hwc.elim
      obtain ⟨m, cells, rfl⟩ := hc
      obtain ⟨hh, hx, ⟨j1, j2, hj1, hj2⟩, hmk'⟩ := hsub
      have hk' := mkF_cnt (.ro m cells) (.sub fs) k
      have h1 : k + (cntF (.sub fs) (.ro m cells) + cntL (todo.map FD.f) R : Nat) ≤ 4611686018427387904 := h1
      show (pIadr w (.sl A.length 0 len w) (.sc (.int .i64 i)) fun t => fadrs (PR n β) path t fun t => pLoad false 1 t _ fun v => (PR n β).call tI (.fn g [] []) [v, .sc (.int .i64 k)] _ fun k H => bodyM (PR n β) tS tI gT w _ _ todo k H K) = res
      rw [hpl]
      rw [e4, e1]
      refine ms_sub ht rfl hh hx (hmk' m cells k hwc h0 (by omega)) (fun M => ?_) (mkF_nb _ _ _) fun X => ?_
      · rw [inst_SB hj1 hj2]
        show (instT ti0 E0.tp M t (.ro m _)).1 = _
        rw [inst_SB hj1 hj2]
      · refine go _ _ (C ++ X) K (by omega) (by omega) fun Y => ?_
        rw [List.append_assoc]
        exact h (X ++ Y)
    | str =>
      have hc : ∃ s, c = .sc (.string s) := by
        cases c with
        | sc v => cases v <;> first | exact ⟨_, rfl⟩ | exact hwc.elim
        | _ => exact hwc.elim
      obtain ⟨v, rfl⟩ := hc
      have h1 : k + (1 + cntL (todo.map FD.f) R : Nat) ≤ 4611686018427387904 := h1
      show (PR n β).call tS (.fn gT [] []) [.sc (.int .i64 k)] _ (fun s H => pIadr w (.sl A.length 0 len w) (.sc (.int .i64 i)) fun t => fadrs (PR n β) path t fun t => pStore 1 t s H fun H => pBin .add (.sc (.int .i64 k)) (.sc (.int .i64 1)) fun k => bodyM (PR n β) tS tI gT w _ _ todo k H K) = res
      rw [call_txt hT h0 (by omega)]
      simp only [hpl]
      rw [e4, e1, sb_store ht rfl rfl, add1 _ _ h0 (by omega)]
      exact go _ _ C K (by omega) (by omega) h
    | int =>
      have hc : ∃ z, c = .sc (.int .i64 z) := by
        cases c with
        | sc v => cases v with
          | int kd z => cases kd <;> first | exact ⟨_, rfl⟩ | exact hwc.elim
          | _ => exact hwc.elim
        | _ => exact hwc.elim
      obtain ⟨v, rfl⟩ := hc
      have h1 : k + (1 + cntL (todo.map FD.f) R : Nat) ≤ 4611686018427387904 := h1
      show (pIadr w (.sl A.length 0 len w) (.sc (.int .i64 i)) fun t => fadrs (PR n β) path t fun t => pStore 1 t (.sc (.int .i64 k)) _ fun H => pBin .add (.sc (.int .i64 k)) (.sc (.int .i64 1)) fun k => bodyM (PR n β) tS tI gT w _ _ todo k H K) = res
      rw [hpl]
      rw [e4, e1, sb_store ht rfl rfl, add1 _ _ h0 (by omega)]
      exact go _ _ C K (by omega) (by omega) h
    | bool =>
      have hc : ∃ b, c = .sc (.bool b) := by
        cases c with
        | sc v => cases v <;> first | exact ⟨_, rfl⟩ | exact hwc.elim
        | _ => exact hwc.elim
      obtain ⟨v, rfl⟩ := hc
      have h1 : k + (1 + cntL (todo.map FD.f) R : Nat) ≤ 4611686018427387904 := h1
      show (pIadr w (.sl A.length 0 len w) (.sc (.int .i64 i)) fun t => fadrs (PR n β) path t fun t => pStore 1 t (.sc (.bool (k.tmod 3 == 0))) _ fun H => pBin .add (.sc (.int .i64 k)) (.sc (.int .i64 1)) fun k => bodyM (PR n β) tS tI gT w _ _ todo k H K) = res
      rw [hpl]
      rw [e4, e1, sb_store ht rfl rfl, add1 _ _ h0 (by omega)]
      exact go _ _ C K (by omega) (by omega) h
    | byt =>
      have hc : ∃ z, c = .sc (.int .u8 z) := by
        cases c with
        | sc v => cases v with
          | int kd z => cases kd <;> first | exact ⟨_, rfl⟩ | exact hwc.elim
          | _ => exact hwc.elim
        | _ => exact hwc.elim
      obtain ⟨v, rfl⟩ := hc
      have h1 : k + (1 + cntL (todo.map FD.f) R : Nat) ≤ 4611686018427387904 := h1
      show (pIadr w (.sl A.length 0 len w) (.sc (.int .i64 i)) fun t => fadrs (PR n β) path t fun t => pStore 1 t (.sc (.int .u8 (IntKind.u8.wrap k))) _ fun H => pBin .add (.sc (.int .i64 k)) (.sc (.int .i64 1)) fun k => bodyM (PR n β) tS tI gT w _ _ todo k H K) = res
      rw [hpl]
      rw [e4, e1, sb_store ht rfl rfl, add1 _ _ h0 (by omega)]
      exact go _ _ C K (by omega) (by omega) h
end fns

end Go.Proofs.Ytfpmccedangjoaa.Abs
