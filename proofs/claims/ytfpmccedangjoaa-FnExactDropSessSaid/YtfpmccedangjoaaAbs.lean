/- An abstract evaluator for the loaded program's code: lists and trees in the place of memory. -/
import Derived.Calls
import Derived.Laws.Entries
set_option linter.unusedVariables false
namespace Go.Proofs.Ytfpmccedangjoaa.Abs
open Go

/-- An abstract value. 'ro': a slice whose cells stay as they are; 'sl': one into a block of the call's own (block, first cell, elements, cells an element); 'rp': an address among cells that stay. -/
inductive AV where
  | any
  | sc (v : Value)
  | nl
  | ro (len : Nat) (cells : List AV)
  | sl (id off len sz : Nat)
  | ptr (id off : Nat)
  | rp (cells : List AV)
  | agg (cells : List AV)
  | tup (vs : List AV)
  | fn (f : FuncId) (first cap : List AV)
  deriving Inhabited

structure Blk where
  cells : List AV
  live : Bool
  app : Bool
  deriving Inhabited

abbrev Heap := List Blk

def ofCell : Value → AV
  | .slice none 0 0 => .nl
  | v => .sc v
def ofValue : Value → AV
  | .agg cs => .agg (cs.toList.map ofCell)
  | v => ofCell v
def leafV : Value → Bool
  | .agg _ => false
  | .tuple _ => false
  | _ => true
def isLeaf : AV → Bool
  | .sc v => leafV v
  | .any => false
  | .agg _ => false
  | .tup _ => false
  | _ => true
/-- The cells that a value takes in memory. -/
def cellsA : AV → Option (List AV)
  | .agg cs => if cs.all isLeaf then some cs else none
  | v => if isLeaf v then some [v] else none

/-- The order in which a region's operations are looked at; where two may be first, both. -/
inductive PI where
  | nil
  | one (i : Nat) (r : PI)
  | two (i : Nat) (r : PI) (j : Nat) (q : PI)
def PI.of : List Nat → PI
  | [] => .nil
  | i :: l => .one i (PI.of l)
def PI.len : PI → Nat
  | .nil => 0
  | .one _ r => r.len + 1
  | .two _ r _ _ => r.len + 1
inductive PT where
  | nil
  | one (o : Oper) (r : PT)
  | two (o : Oper) (r : PT) (o' : Oper) (q : PT)

/-- What is told of a type. -/
structure TI where
  isAgg : Bool
  sl : Bool
  size : Nat
  bytes : Nat
  zero : List Value
  elem : Nat
  fields : List (Nat × Nat)
  ik : Option IntKind
  isStr : Bool
  isB : Bool
  /-- the types of its cells -/
  cty : List Nat
  /-- its values can be compared, cell by cell -/
  eqs : Bool
  deriving Inhabited

structure FnI where
  body : Code
  ntmps : Nat
  results : List ResultVar
  /-- the order that is looked at, of each region whose order is drawn -/
  ords : List (Nat × PI)

structure Env where
  ti : Nat → Option TI
  /-- the types of a tuple's parts -/
  tp : Nat → Option (List Nat)
  fs : FuncId → Option FnI
  ext : FuncId → Option (Nat → List AV → Option AV)
  hm : FuncId → Bool

inductive Ex where
  | normal
  | exit (id : Nat)
  | ret

section prims
variable {β : Type}

/-- The temporaries: what was written last stands first. -/
abbrev Tm := List (Nat × AV)
def gt : Tm → Nat → AV
  | [], _ => .any
  | (j, v) :: r, i => if Nat.beq j i then v else gt r i
def nrm (nt : Nat) (tm : Tm) : Tm := (List.range nt).map fun i => (i, gt tm i)

def ev (tm : Tm) : Operand → AV
  | .tmp n => gt tm n
  | .const v => ofValue v
  | .func f => .fn f [] []
  | .global _ => .any

def rdCells (H : Heap) (id off n : Nat) : Option (List AV) :=
  match H[id]? with
  | some b => if b.live then (if off + n ≤ b.cells.length then some ((b.cells.drop off).take n) else none) else none
  | none => none

def one (cs : List AV) : Option AV :=
  match cs with
  | [c] => some c
  | _ => none

def pLoad (a : Bool) (n : Nat) (x : AV) (H : Heap) (k : AV → Option β) : Option β :=
  match x with
  | .ptr id off => (rdCells H id off n).bind fun cs => if a then k (.agg cs) else (one cs).bind k
  | .rp cells => if n ≤ cells.length then (if a then k (.agg (cells.take n)) else (one (cells.take n)).bind k) else none
  | _ => none

def splice (cs : List AV) (off : Nat) (vs : List AV) : List AV := cs.take off ++ vs ++ cs.drop (off + vs.length)

def pStore (n : Nat) (x y : AV) (H : Heap) (k : Heap → Option β) : Option β :=
  match x with
  | .ptr id off =>
    match H[id]? with
    | some b => (cellsA y).bind fun cs => if b.live then (if cs.length = n then (if off + n ≤ b.cells.length then k (H.set id { b with cells := splice b.cells off cs }) else none) else none) else none
    | none => none
  | _ => none

def pNew (cs : List AV) (H : Heap) (k : AV → Heap → Option β) : Option β := k (.ptr H.length 0) (H ++ [⟨cs, true, true⟩])
def pBox (x : AV) (H : Heap) (k : AV → Heap → Option β) : Option β := (cellsA x).bind fun cs => pNew cs H k
def pNewSl (len sz : Nat) (cs : List AV) (a : Bool) (H : Heap) (k : AV → Heap → Option β) : Option β := k (.sl H.length 0 len sz) (H ++ [⟨cs, true, a⟩])

def pFadr (off : Nat) (x : AV) (k : AV → Option β) : Option β :=
  match x with
  | .ptr id o => k (.ptr id (o + off))
  | .rp cells => k (.rp (cells.drop off))
  | _ => none

def pFld (a : Bool) (off n : Nat) (x : AV) (k : AV → Option β) : Option β :=
  match x with
  | .agg cs => if off + n ≤ cs.length then (if a then k (.agg ((cs.drop off).take n)) else (one ((cs.drop off).take n)).bind k) else none
  | _ => none

def asI : AV → Option Int
  | .sc (.int _ n) => some n
  | _ => none
def asB : AV → Option Bool
  | .sc (.bool b) => some b
  | _ => none
def asS : AV → Option ByteArray
  | .sc (.string s) => some s
  | _ => none

def pIadr (sz : Nat) (x i : AV) (k : AV → Option β) : Option β :=
  (asI i).bind fun n =>
  match x with
  | .sl id off len z => if z = sz then (if 0 ≤ n ∧ n < len then k (.ptr id (off + n.toNat * sz)) else none) else none
  | .ro len cells => if 0 ≤ n ∧ n < len then (if n.toNat * sz < cells.length then k (.rp (cells.drop (n.toNat * sz))) else none) else none
  | _ => none

def pIdx (x i : AV) (k : AV → Option β) : Option β :=
  (asI i).bind fun n => (asS x).bind fun s => if h : 0 ≤ n ∧ n.toNat < s.size then k (.sc (.int .u8 (s[n.toNat]'h.2).toNat)) else none

def pLenS (x : AV) (k : AV → Option β) : Option β := (asS x).bind fun s => k (.sc (.int .i64 s.size))
def pLen (x : AV) (k : AV → Option β) : Option β :=
  match x with
  | .nl => k (.sc (.int .i64 0))
  | .ro n _ => k (.sc (.int .i64 n))
  | .sl _ _ n _ => k (.sc (.int .i64 n))
  | _ => none

def lenA : AV → Option Nat
  | .sc (.string s) => some s.size
  | .nl => some 0
  | .ro n _ => some n
  | .sl _ _ n _ => some n
  | _ => none

def bound (x : Option AV) (d : Int) : Option Int :=
  match x with
  | none => some d
  | some v => asI v

def pSliceS (x : AV) (lo hi : Option AV) (k : AV → Option β) : Option β :=
  (asS x).bind fun s => (bound lo 0).bind fun l => (bound hi s.size).bind fun h => if 0 ≤ l ∧ l ≤ h ∧ h ≤ s.size then k (.sc (.string (s.extract l.toNat h.toNat))) else none

def pSlice (sz : Nat) (x : AV) (lo hi : Option AV) (k : AV → Option β) : Option β :=
  (lenA x).bind fun n => (bound lo 0).bind fun l => (bound hi n).bind fun h =>
  if 0 ≤ l ∧ l ≤ h ∧ h ≤ n then
    match x with
    | .nl => k .nl
    | .ro _ cells => k (.ro (h - l).toNat ((cells.drop (l.toNat * sz)).take ((h - l).toNat * sz)))
    | .sl id off _ z => if z = sz then k (.sl id (off + l.toNat * sz) (h - l).toNat sz) else none
    | _ => none
  else none

def bytesAV (s : ByteArray) : List AV := s.data.toList.map fun b => .sc (.int .u8 b.toNat)
def byteOf : AV → Option UInt8
  | .sc (.int .u8 n) => some (UInt8.ofNat n.toNat)
  | _ => none

/-- The cells of what can be appended, of elements of sz cells. -/
def content (H : Heap) (sz : Nat) : AV → Option (List AV)
  | .nl => some []
  | .ro n cells => if cells.length = n * sz then some cells else none
  | .sl id off n z => if z = sz then rdCells H id off (n * sz) else none
  | _ => none

def kill (H : Heap) : AV → Option Heap
  | .nl => some H
  | .sl id _ _ _ => (H[id]?).bind fun b => if b.app then some (H.set id { b with live := false }) else none
  | _ => none

def pApp (sz bytes : Nat) (x y : AV) (H : Heap) (k : AV → Heap → Option β) : Option β :=
  (lenA x).bind fun n => (lenA y).bind fun m => (content H sz x).bind fun cx => (content H sz y).bind fun cy => (kill H x).bind fun H1 =>
  if (n + m) * bytes ≤ 140737488355328 then (if cy.all isLeaf then pNewSl (n + m) sz (cx ++ cy) true H1 k else none) else none
/-- 'append(b, s...)', s a string. -/
def pAppS (bytes : Nat) (x y : AV) (H : Heap) (k : AV → Heap → Option β) : Option β :=
  (lenA x).bind fun n => (asS y).bind fun s => (content H 1 x).bind fun cx => (kill H x).bind fun H1 =>
  if (n + s.size) * bytes ≤ 140737488355328 then pNewSl (n + s.size) 1 (cx ++ bytesAV s) true H1 k else none

def binI (op : BinOp) (k : IntKind) (a b : Int) : Option Value :=
  match op with
  | .add => some (.int k (k.wrap (a + b)))
  | .sub => some (.int k (k.wrap (a - b)))
  | .mul => some (.int k (k.wrap (a * b)))
  | .quo => if b = 0 then none else some (.int k (k.wrap (a.tdiv b)))
  | .rem => if b = 0 then none else some (.int k (a.tmod b))
  | .and => some (.int k (bits .and k a b))
  | .or => some (.int k (bits .or k a b))
  | .xor => some (.int k (bits .xor k a b))
  | .eql => some (.bool (a == b))
  | .neq => some (.bool (a != b))
  | .lss => some (.bool (decide (a < b)))
  | .leq => some (.bool (decide (a ≤ b)))
  | .gtr => some (.bool (decide (a > b)))
  | .geq => some (.bool (decide (a ≥ b)))
  | _ => none

def shI (op : BinOp) (k : IntKind) (a b : Int) : Option Value :=
  if 0 ≤ b ∧ b ≤ k.bits then
    match op with
    | .shl => some (.int k (k.wrap (a * 2 ^ b.toNat)))
    | .shr => some (.int k (a / 2 ^ b.toNat))
    | _ => none
  else none

def binS (op : BinOp) (x y : ByteArray) : Option Value :=
  match op with
  | .add => if x.size + y.size ≤ 9223372036854775807 then some (.string (x ++ y)) else none
  | .eql => some (.bool (x.toList == y.toList))
  | .neq => some (.bool (!(x.toList == y.toList)))
  | .lss => some (.bool (Op.bytesLess x.toList y.toList))
  | .leq => some (.bool (Op.bytesLess x.toList y.toList || x.toList == y.toList))
  | .gtr => some (.bool (!(Op.bytesLess x.toList y.toList || x.toList == y.toList)))
  | .geq => some (.bool (!Op.bytesLess x.toList y.toList))
  | _ => none

def binB (op : BinOp) (x y : Bool) : Option Value :=
  match op with
  | .eql => some (.bool (x == y))
  | .neq => some (.bool (!(x == y)))
  | _ => none

def isSh : BinOp → Bool
  | .shl => true
  | .shr => true
  | _ => false

def pBin (op : BinOp) (x y : AV) (k : AV → Option β) : Option β :=
  match x, y with
  | .sc (.int ka a), .sc (.int kb b) => if isSh op then (shI op ka a b).bind fun v => k (.sc v) else (if ka = kb then (binI op ka a b).bind fun v => k (.sc v) else none)
  | .sc (.string a), .sc (.string b) => (binS op a b).bind fun v => k (.sc v)
  | _, _ => none

def pBinB (op : BinOp) (x y : AV) (k : AV → Option β) : Option β := (asB x).bind fun a => (asB y).bind fun b => (binB op a b).bind fun v => k (.sc v)

/-- The kinds of a structure's cells, each of which is one field: numbers, texts, bools. -/
def kindQ (j : TI) : Option Nat := if j.isB then some 2 else if j.ik.isSome then some 0 else if j.isStr then some 1 else none
def kindsOf (ti : Nat → Option TI) : List (Nat × Nat) → Nat → Option (List Nat)
  | [], _ => some []
  | (o, t) :: r, e =>
    match Nat.beq o e, ti t with
    | true, some j =>
      match kindQ j, kindsOf ti r (e + 1) with
      | some q, some l => some (q :: l)
      | _, _ => none
    | _, _ => none
def eqCell (q : Nat) (a b : Value) : Option Bool :=
  match q, a, b with
  | 0, .int ka x, .int kb y => if ka = kb then some (x == y) else none
  | 1, .string x, .string y => some (x.toList == y.toList)
  | 2, .bool x, .bool y => some (x == y)
  | _, _, _ => none
def eqCells : List Nat → List AV → List AV → Option Bool
  | [], [], [] => some true
  | q :: qs, .sc a :: cs, .sc b :: ds => (eqCell q a b).bind fun r => if r then eqCells qs cs ds else some false
  | _, _, _ => none
def pBinA (op : BinOp) (qs : List Nat) (x y : AV) (k : AV → Option β) : Option β :=
  match x, y with
  | .agg cs, .agg ds => (eqCells qs cs ds).bind fun b =>
    match op with
    | .eql => k (.sc (.bool b))
    | .neq => k (.sc (.bool (!b)))
    | _ => none
  | _, _ => none

def pUn (op : UnOp) (x : AV) (k : AV → Option β) : Option β :=
  match op, x with
  | .not, .sc (.bool b) => k (.sc (.bool (!b)))
  | .neg, .sc (.int i n) => k (.sc (.int i (i.wrap (0 - n))))
  | _, _ => none

def pPick (c a b : AV) (k : AV → Option β) : Option β :=
  (asB c).bind fun t =>
  match a, b with
  | .sc x, .sc y => k (.sc (if t then x else y))
  | _, _ => if t then k a else k b

def pCvI (i : IntKind) (x : AV) (k : AV → Option β) : Option β := (asI x).bind fun n => k (.sc (.int i (i.wrap n)))
def pCvSS (x : AV) (k : AV → Option β) : Option β := (asS x).bind fun s => k (.sc (.string s))
def pCvBS (x : AV) (H : Heap) (k : AV → Option β) : Option β := (content H 1 x).bind fun cs => (cs.mapM byteOf).bind fun bs => k (.sc (.string ⟨bs.toArray⟩))
def pCvSB (x : AV) (H : Heap) (k : AV → Heap → Option β) : Option β := (asS x).bind fun s => if s.size ≤ 140737488355328 then pNewSl s.size 1 (bytesAV s) false H k else none

def pExtr (x : AV) (i : Nat) (k : AV → Option β) : Option β :=
  match x with
  | .tup vs => (vs[i]?).bind k
  | _ => none

def pNil (x : AV) (k : AV → Option β) : Option β :=
  match x with
  | .ptr id off => k (.ptr id off)
  | .rp cs => k (.rp cs)
  | .fn f a b => k (.fn f a b)
  | _ => none

def fillA (cells : List AV) : List (Nat × Nat × AV) → Option (List AV)
  | [] => some cells
  | (off, n, v) :: rest => (cellsA v).bind fun cs => if cs.length = n then (if off + n ≤ cells.length then fillA (splice cells off cs) rest else none) else none

def pMake (sz bytes : Nat) (z : List AV) (x y : AV) (H : Heap) (k : AV → Heap → Option β) : Option β :=
  (asI x).bind fun n => (asI y).bind fun m => if n = m then (if 0 ≤ n then (if n.toNat * bytes ≤ 140737488355328 then pNewSl n.toNat sz ((List.replicate n.toNat z).flatten) true H k else none) else none) else none

/-- clear, of a slice that is the call's own. -/
def pClear (sz : Nat) (z : List AV) (x : AV) (H : Heap) (k : Heap → Option β) : Option β :=
  match x with
  | .nl => k H
  | .sl id off n s => if s = sz then (match n with
    | 0 => k H
    | n + 1 => match H[id]? with
      | some kk => if kk.live then (if off + (n + 1) * sz ≤ kk.cells.length then k (H.set id { kk with cells := splice kk.cells off ((List.replicate (n + 1) z).flatten) }) else none) else none
      | none => none) else none
  | _ => none

def pGuard (c : AV) (t : Bool) (H : Heap) (m : (AV → Heap → Option β) → Option β) (k : AV → Heap → Option β) : Option β :=
  match c with
  | .sc (.bool b) => if b = t then m k else k (.sc undef) H
  | .any => none
  | _ => k (.sc undef) H

def letJ {α : Sort _} {γ : Type} (x : α) (f : α → γ) : γ := f x

def pCond (c : AV) (a b : Option β) : Option β := (asB c).bind fun t => if t then a else b
/-- Two ways that come to the same. -/
noncomputable def pBoth (a b : Option β) : Option β := @ite _ (a = b) (Classical.propDecidable _) a none
theorem pBoth_some {a b : Option β} {r : β} (h : pBoth a b = some r) : a = some r ∧ b = some r := by
  unfold pBoth at h
  by_cases e : a = b
  · rw [if_pos e] at h
    exact ⟨h, e ▸ h⟩
  · rw [if_neg e] at h
    cases h
theorem pBoth_eq {a b r : Option β} (h1 : a = r) (h2 : b = r) : pBoth a b = r := by
  unfold pBoth
  rw [if_pos (h1.trans h2.symm), h1]

/-! views and trees -/
def viewV (H : Heap) : Nat → AV → Option AV
  | 0, _ => none
  | d + 1, x =>
    match x with
    | .sc v => some (.sc v)
    | .nl => some (.ro 0 [])
    | .ro n cs => some (.ro n cs)
    | .sl id off n z => (rdCells H id off (n * z)).bind fun cs => (cs.mapM (viewV H d)).bind fun vs => some (.ro n vs)
    | .agg cs => (cs.mapM (viewV H d)).bind fun vs => some (.agg vs)
    | .tup cs => (cs.mapM (viewV H d)).bind fun vs => some (.tup vs)
    | .rp cs => some (.rp cs)
    | .ptr id off => (H[id]?).bind fun b => (rdCells H id off (b.cells.length - off)).bind fun cs => (cs.mapM (viewV H d)).bind fun vs => some (.rp vs)
    | .fn f a c => (a.mapM (viewV H d)).bind fun as => (c.mapM (viewV H d)).bind fun cs => some (.fn f as cs)
    | .any => none

/-! A result: its tree, all of whose memory is the call's own, each block led to once; and what such a tree is to the caller. Both go along the type. -/
def ownL (f : Nat → AV → Option (AV × List Nat)) : List Nat → List AV → Option (List AV × List Nat)
  | [], [] => some ([], [])
  | t :: ts, x :: xs => (f t x).bind fun p => (ownL f ts xs).bind fun q => some (p.1 :: q.1, p.2 ++ q.2)
  | _, _ => none

def isApp (H : Heap) (id : Nat) : Bool :=
  match H[id]? with
  | some b => b.app
  | none => false

def ownT (ti : Nat → Option TI) (tp : Nat → Option (List Nat)) (H : Heap) : Nat → Nat → AV → Option (AV × List Nat)
  | 0, _, _ => none
  | d + 1, ty, x =>
    match x with
    | .sc v => some (.sc v, [])
    | .nl => some (.ro 0 [], [])
    | .sl id off n z => (ti ty).bind fun i => (ti i.elem).bind fun j => if z = j.size then (if isApp H id then (rdCells H id off (n * z)).bind fun cs => (ownL (ownT ti tp H d) (List.replicate n j.cty).flatten cs).bind fun q => some (.ro n q.1, id :: q.2) else none) else none
    | .agg cs => (ti ty).bind fun i => (ownL (ownT ti tp H d) i.cty cs).bind fun q => some (.agg q.1, q.2)
    | .tup cs => (tp ty).bind fun ts => (ownL (ownT ti tp H d) ts cs).bind fun q => some (.tup q.1, q.2)
    | _ => none

def ownTree (ti : Nat → Option TI) (tp : Nat → Option (List Nat)) (ty : Nat) (H : Heap) (x : AV) : Option AV := (ownT ti tp H 8 ty x).bind fun p => if p.2.Nodup then some p.1 else none

mutual
def instT (ti : Nat → Option TI) (tp : Nat → Option (List Nat)) (n ty : Nat) : AV → AV × List Blk
  | .sc v => (.sc v, [])
  | .ro len cells =>
    let j := ((ti ty).bind fun i => ti i.elem).getD default
    let p := instL ti tp (n + 1) (List.replicate len j.cty).flatten cells
    (.sl n 0 len j.size, ⟨p.1, true, true⟩ :: p.2)
  | .agg cs => let p := instL ti tp n ((ti ty).getD default).cty cs; (.agg p.1, p.2)
  | .tup cs => let p := instL ti tp n ((tp ty).getD []) cs; (.tup p.1, p.2)
  | _ => (.any, [])
def instL (ti : Nat → Option TI) (tp : Nat → Option (List Nat)) (n : Nat) (ts : List Nat) : List AV → List AV × List Blk
  | [] => ([], [])
  | x :: xs => let p := instT ti tp n (ts.headD 0) x; let q := instL ti tp (n + p.2.length) ts.tail xs; (p.1 :: q.1, p.2 ++ q.2)
end

end prims

/-- How a callee is evaluated. -/
def Cal := ∀ (β : Type), FuncId → List AV → Heap → (AV → Heap → Option β) → Option β

section code
variable (E : Env) (cal : Cal) {β : Type}

def treeOf (ty : Nat) (f : FuncId) (args : List AV) : Option AV := cal AV f args [] (fun x H => ownTree E.ti E.tp ty H x)

def callT (ty : Nat) (f : FuncId) (args : List AV) (H : Heap) (k : AV → Heap → Option β) : Option β :=
  (args.mapM (viewV H 8)).bind fun vs => (treeOf E cal ty f vs).bind fun t => k (instT E.ti E.tp H.length ty t).1 (H ++ (instT E.ti E.tp H.length ty t).2)

def callX (ty : Nat) (g : Nat → List AV → Option AV) (args : List AV) (H : Heap) (k : AV → Heap → Option β) : Option β :=
  (args.mapM (viewV H 8)).bind fun vs => (g ty vs).bind fun t => k (instT E.ti E.tp H.length ty t).1 (H ++ (instT E.ti E.tp H.length ty t).2)

def callF (ty : Nat) (f : FuncId) (args : List AV) (H : Heap) (k : AV → Heap → Option β) : Option β :=
  match E.ext f with
  | some g => callX E ty g args H k
  | none => if E.hm f then cal β f args H k else callT E cal ty f args H k

def pCall (ty : Nat) (x : AV) (args : List AV) (H : Heap) (k : AV → Heap → Option β) : Option β :=
  match x with
  | .fn f first cap => callF E cal ty f (first ++ args ++ cap) H k
  | _ => none
end code

/-- What the code is made of: each operation, with what is done behind it. -/
structure Pr (β : Type) where
  load : Bool → Nat → AV → Heap → (AV → Option β) → Option β
  store : Nat → AV → AV → Heap → (Heap → Option β) → Option β
  new : List AV → Heap → (AV → Heap → Option β) → Option β
  box : AV → Heap → (AV → Heap → Option β) → Option β
  newSl : Nat → Nat → List AV → Bool → Heap → (AV → Heap → Option β) → Option β
  fadr : Nat → AV → (AV → Option β) → Option β
  fld : Bool → Nat → Nat → AV → (AV → Option β) → Option β
  iadr : Nat → AV → AV → (AV → Option β) → Option β
  idx : AV → AV → (AV → Option β) → Option β
  lenS : AV → (AV → Option β) → Option β
  len : AV → (AV → Option β) → Option β
  sliceS : AV → Option AV → Option AV → (AV → Option β) → Option β
  slice : Nat → AV → Option AV → Option AV → (AV → Option β) → Option β
  app : Nat → Nat → AV → AV → Heap → (AV → Heap → Option β) → Option β
  appS : Nat → AV → AV → Heap → (AV → Heap → Option β) → Option β
  bin : BinOp → AV → AV → (AV → Option β) → Option β
  binB : BinOp → AV → AV → (AV → Option β) → Option β
  binA : BinOp → List Nat → AV → AV → (AV → Option β) → Option β
  un : UnOp → AV → (AV → Option β) → Option β
  pick : AV → AV → AV → (AV → Option β) → Option β
  cvI : IntKind → AV → (AV → Option β) → Option β
  cvSS : AV → (AV → Option β) → Option β
  cvBS : AV → Heap → (AV → Option β) → Option β
  cvSB : AV → Heap → (AV → Heap → Option β) → Option β
  extr : AV → Nat → (AV → Option β) → Option β
  nil : AV → (AV → Option β) → Option β
  fill : List AV → List (Nat × Nat × AV) → (List AV → Option β) → Option β
  make : Nat → Nat → List AV → AV → AV → Heap → (AV → Heap → Option β) → Option β
  clear : Nat → List AV → AV → Heap → (Heap → Option β) → Option β
  guard : AV → Bool → Heap → ((AV → Heap → Option β) → Option β) → (AV → Heap → Option β) → Option β
  cond : AV → Option β → Option β → Option β
  both : Option β → Option β → Option β
  call : Nat → AV → List AV → Heap → (AV → Heap → Option β) → Option β

/-- The operations as they are. -/
noncomputable def prims (E : Env) (cal : Cal) (β : Type) : Pr β where
  load := pLoad
  store := pStore
  new := pNew
  box := pBox
  newSl := pNewSl
  fadr := pFadr
  fld := pFld
  iadr := pIadr
  idx := pIdx
  lenS := pLenS
  len := pLen
  sliceS := pSliceS
  slice := pSlice
  app := pApp
  appS := pAppS
  bin := pBin
  binB := pBinB
  binA := pBinA
  un := pUn
  pick := pPick
  cvI := pCvI
  cvSS := pCvSS
  cvBS := pCvBS
  cvSB := pCvSB
  extr := pExtr
  nil := pNil
  fill := fun a l k => (fillA a l).bind k
  make := pMake
  clear := pClear
  guard := pGuard
  cond := pCond
  both := pBoth
  call := pCall E cal

section run
variable {β : Type} (ti : Nat → Option TI) (p : Pr β)

def zeroA (i : TI) : List AV := i.zero.map ofCell

def partsA (ev : Operand → AV) (place : Nat → Option (Nat × Nat)) : List (Nat × Operand) → Option (List (Nat × Nat × AV))
  | [] => some []
  | (i, x) :: rest =>
    match place i, partsA ev place rest with
    | some (off, n), some l => some ((off, n, ev x) :: l)
    | _, _ => none

def evalOp (op : Op) (ty : TypeId) (tm : Tm) (H : Heap) (k : AV → Heap → Option β) : Option β :=
  match op with
  | .move x => k (ev tm x) H
  | .assign x => k (ev tm x) H
  | .pick c a b => p.pick (ev tm c) (ev tm a) (ev tm b) fun v => k v H
  | .alloc t =>
    match ti t with
    | some i => p.new (zeroA i) H k
    | none => none
  | .box _ x => p.box (ev tm x) H k
  | .build t parts =>
    match ti t with
    | some i =>
      match i.isAgg, partsA (ev tm) (fun f => match i.fields[f]? with | some (o, ft) => (match ti ft with | some j => some (o, j.size) | none => none) | none => none) parts.toList with
      | true, some l => p.fill (zeroA i) l fun cs => k (.agg cs) H
      | _, _ => none
    | none => none
  | .buildSlice t len parts =>
    match ti t with
    | some i =>
      match i.sl, ti i.elem with
      | true, some j =>
        match len, partsA (ev tm) (fun f => some (f * j.size, j.size)) parts.toList with
        | 0, some [] => k .nl H
        | n + 1, some l => match Nat.ble ((n + 1) * j.size) 16777216 with
          | true => p.fill ((List.replicate (n + 1) (zeroA j)).flatten) l fun cs => p.newSl (n + 1) j.size cs true H k
          | false => none
        | _, _ => none
      | _, _ => none
    | none => none
  | .load t x =>
    match ti t with
    | some i => p.load i.isAgg i.size (ev tm x) H fun v => k v H
    | none => none
  | .store t x y =>
    match ti t with
    | some i => p.store i.size (ev tm x) (ev tm y) H fun H => k (.sc undef) H
    | none => none
  | .nilCheck x => p.nil (ev tm x) fun v => k v H
  | .binOp op t x y _ =>
    match ti t with
    | some i => match i.isB with
      | true => p.binB op (ev tm x) (ev tm y) fun v => k v H
      | false => match i.eqs with
        | true => match kindsOf ti i.fields 0 with
          | some qs => p.binA op qs (ev tm x) (ev tm y) fun v => k v H
          | none => none
        | false => p.bin op (ev tm x) (ev tm y) fun v => k v H
    | none => none
  | .unOp op _ x => p.un op (ev tm x) fun v => k v H
  | .convert s d x =>
    match ti s, ti d with
    | some i, some j =>
      match j.ik with
      | some kd => p.cvI kd (ev tm x) fun v => k v H
      | none =>
        match i.isStr, j.isStr with
        | true, true => p.cvSS (ev tm x) fun v => k v H
        | false, true => match i.sl, ti i.elem with
          | true, some e => match e.ik with
            | some .u8 => p.cvBS (ev tm x) H fun v => k v H
            | _ => none
          | _, _ => none
        | true, false => match j.sl, ti j.elem with
          | true, some e => match e.ik with
            | some .u8 => p.cvSB (ev tm x) H k
            | _ => none
          | _, _ => none
        | _, _ => none
    | _, _ => none
  | .fieldAddr t x f =>
    match ti t with
    | some i => match i.isAgg, i.fields[f]? with
      | true, some (o, ft) => match ti ft with
        | some j => match j.size with
          | 0 => none
          | _ + 1 => p.fadr o (ev tm x) fun v => k v H
        | none => none
      | _, _ => none
    | none => none
  | .field t x f =>
    match ti t with
    | some i => match i.isAgg, i.fields[f]? with
      | true, some (o, ft) => match ti ft with
        | some j => p.fld j.isAgg o j.size (ev tm x) fun v => k v H
        | none => none
      | _, _ => none
    | none => none
  | .indexAddr t x y =>
    match ti t with
    | some i => match i.sl, ti i.elem with
      | true, some j => p.iadr j.size (ev tm x) (ev tm y) fun v => k v H
      | _, _ => none
    | none => none
  | .index _ x y => p.idx (ev tm x) (ev tm y) fun v => k v H
  | .slice t x lo hi mx =>
    match mx with
    | some _ => none
    | none =>
      match ti t with
      | some i => match i.isStr with
        | true => p.sliceS (ev tm x) (lo.map (ev tm)) (hi.map (ev tm)) fun v => k v H
        | false => match i.sl, ti i.elem with
          | true, some j => p.slice j.size (ev tm x) (lo.map (ev tm)) (hi.map (ev tm)) fun v => k v H
          | _, _ => none
      | none => none
  | .makeSlice t x y =>
    match ti t with
    | some i => match i.sl, ti i.elem with
      | true, some j => p.make j.size j.bytes (zeroA j) (ev tm x) (ev tm y) H k
      | _, _ => none
    | none => none
  | .makeFunc f first cap =>
    match f with
    | .func g => k (.fn g (first.toList.map (ev tm)) (cap.toList.map (ev tm))) H
    | _ => none
  | .extract x i => p.extr (ev tm x) i fun v => k v H
  | .call c =>
    match c.callee with
    | .value f => p.call ty (ev tm f) (c.args.toList.map (ev tm)) H k
    | .builtin b =>
      match b, c.args.toList, c.argTypes.toList with
      | .len, [x], [t] =>
        match ti t with
        | some i => match i.isStr, i.sl with
          | true, _ => p.lenS (ev tm x) fun v => k v H
          | false, true => p.len (ev tm x) fun v => k v H
          | _, _ => none
        | none => none
      | .clear, [x], [t] =>
        match ti t with
        | some i => match i.sl, ti i.elem with
          | true, some j => p.clear j.size (zeroA j) (ev tm x) H fun H => k (.sc (.tuple #[])) H
          | _, _ => none
        | none => none
      | .append, [x, y], [t, t'] =>
        match ti t, ti t' with
        | some i, some i' =>
          match i'.ik with
          | some _ => none
          | none => match i.sl, ti i.elem with
            | true, some j => match i'.isStr, i'.sl with
              | true, _ => match j.ik with
                | some .u8 => p.appS j.bytes (ev tm x) (ev tm y) H k
                | _ => none
              | false, true => match Nat.beq i'.elem i.elem with
                | true => p.app j.size j.bytes (ev tm x) (ev tm y) H k
                | false => none
              | _, _ => none
            | _, _ => none
        | _, _ => none
      | _, _, _ => none
    | _ => none
  | _ => none

def putT (tm : Tm) (d : Option Nat) (v : AV) : Tm :=
  match d with
  | some i => (i, v) :: tm
  | none => tm

/-- An append onto a row of no elements that the region itself has made. -/
def appA (all : List Oper) (o : Oper) : Option Operand :=
  match o.op with
  | .call c =>
    match c.callee with
    | .builtin .append =>
      match c.args.toList with
      | .tmp t :: _ => if all.any (fun q => q.dst == some t && (match q.op with | .buildSlice _ 0 _ => true | _ => false)) then some (.tmp t) else none
      | _ => none
    | _ => none
  | _ => none
def isNl : AV → Bool
  | .nl => true
  | _ => false
def chkA (all : List Oper) (o : Oper) (tm : Tm) : Bool :=
  match appA all o with
  | some x => isNl (ev tm x)
  | none => true

def evalOps (c : Oper → Tm → Bool) (all : List Oper) : List Oper → Tm → Heap → (Tm → Heap → Option β) → Option β
  | [], tm, H, k => k tm H
  | o :: rest, tm, H, k =>
    match c o tm with
    | true =>
      match o.guard with
      | none => evalOp ti p o.op o.type tm H fun v H => evalOps c all rest (putT tm o.dst v) H k
      | some (j, t) =>
        match (all[j]?).bind (·.dst) with
        | some d => p.guard (gt tm d) t H (fun k' => evalOp ti p o.op o.type tm H k') fun v H => evalOps c all rest (putT tm o.dst v) H k
        | none => none
    | false => none

def stepO (c : Oper → Tm → Bool) (all : List Oper) (o : Oper) (tm : Tm) (H : Heap) (k : Tm → Heap → Option β) : Option β :=
  match c o tm with
  | true =>
    match o.guard with
    | none => evalOp ti p o.op o.type tm H fun v H => k (putT tm o.dst v) H
    | some (j, t) =>
      match (all[j]?).bind (·.dst) with
      | some d => p.guard (gt tm d) t H (fun k' => evalOp ti p o.op o.type tm H k') fun v H => k (putT tm o.dst v) H
      | none => none
  | false => none
def evalPT (c : Oper → Tm → Bool) (all : List Oper) : PT → Tm → Heap → (Tm → Heap → Option β) → Option β
  | .nil, tm, H, k => k tm H
  | .one o r, tm, H, k => stepO ti p c all o tm H fun tm H => evalPT c all r tm H k
  | .two o r o' q, tm, H, k => p.both (stepO ti p c all o tm H fun tm H => evalPT c all r tm H k) (stepO ti p c all o' tm H fun tm H => evalPT c all q tm H k)

def ordOf {α : Type} : List (Nat × α) → Nat → Option α
  | [], _ => none
  | (j, l) :: r, i => if Nat.beq j i then some l else ordOf r i
def pickPI (all : List Oper) : PI → Option PT
  | .nil => some .nil
  | .one i l =>
    match all[i]?, pickPI all l with
    | some o, some r => some (.one o r)
    | _, _ => none
  | .two i l j m =>
    match all[i]?, pickPI all l, all[j]?, pickPI all m with
    | some o, some r, some o', some q => some (.two o r o' q)
    | _, _, _, _ => none

def seqK (f : Tm → Heap → Option β) (k : Ex → Tm → Heap → Option β) : Ex → Tm → Heap → Option β
  | .normal, tm, H => f tm H
  | .exit i, tm, H => k (.exit i) tm H
  | .ret, tm, H => k .ret tm H

def blkK (id : Nat) (k : Ex → Tm → Heap → Option β) : Ex → Tm → Heap → Option β
  | .normal, tm, H => k .normal tm H
  | .exit i, tm, H => if i = id then k .normal tm H else k (.exit i) tm H
  | .ret, tm, H => k .ret tm H

def iterC (nt : Nat) (body : Tm → Heap → (Ex → Tm → Heap → Option β) → Option β) (k : Ex → Tm → Heap → Option β) : Nat → Tm → Heap → Option β
  | 0, _, _ => none
  | n + 1, tm, H => body tm H (seqK (fun tm H => iterC nt body k n (nrm nt tm) H) k)

def evalCode (od : List (Nat × PI)) (nt n : Nat) : Code → Tm → Heap → (Ex → Tm → Heap → Option β) → Option β
  | .skip, tm, H, k => k .normal tm H
  | .region _ ops false, tm, H, k => evalOps ti p (fun _ _ => true) ops.toList ops.toList tm H fun tm H => k .normal tm H
  | .region id ops true, tm, H, k =>
    match (ordOf od id).bind (pickPI ops.toList) with
    | some l => evalPT ti p (chkA ops.toList) ops.toList l tm H fun tm H => k .normal tm H
    | none => none
  | .seq a b, tm, H, k => evalCode od nt n a tm H (seqK (fun tm H => evalCode od nt n b tm H k) k)
  | .cond c a b, tm, H, k => p.cond (ev tm c) (evalCode od nt n a tm H k) (evalCode od nt n b tm H k)
  | .block id body, tm, H, k => evalCode od nt n body tm H (blkK id k)
  | .loop body, tm, H, k => iterC nt (fun tm H k => evalCode od nt n body tm H k) k n (nrm nt tm) H
  | .exit id, tm, H, k => k (.exit id) tm H
  | .ret, tm, H, k => k .ret tm H
  | _, _, _, _ => none

def resK (tm : Tm) (H : Heap) : List ResultVar → (List AV → Option β) → Option β
  | [], k => k []
  | .tmp t :: rest, k => resK tm H rest fun l => k (gt tm t :: l)
  | .cell a t :: rest, k =>
    match ti t with
    | some i => p.load i.isAgg i.size (gt tm a) H fun v => resK tm H rest fun l => k (v :: l)
    | none => none

def packA (l : List AV) : AV :=
  match l with
  | [x] => x
  | l => .tup l

def endK (rs : List ResultVar) (k : AV → Heap → Option β) : Ex → Tm → Heap → Option β
  | .normal, tm, H => resK ti p tm H rs fun l => k (packA l) H
  | .exit _, _, _ => none
  | .ret, tm, H => resK ti p tm H rs fun l => k (packA l) H

/-- The temporaries at the beginning. -/
def initT : Nat → Nat → List AV → Tm
  | 0, _, _ => []
  | n + 1, i, [] => (i, .sc undef) :: initT n (i + 1) []
  | n + 1, i, x :: xs => (i, x) :: initT n (i + 1) xs

def evalBody (n : Nat) (i : FnI) (args : List AV) (H : Heap) (k : AV → Heap → Option β) : Option β :=
  evalCode ti p i.ords i.ntmps n i.body (initT i.ntmps 0 args) H (endK ti p i.results k)
end run

noncomputable def evalFn (E : Env) : Nat → Cal
  | 0 => fun _ _ _ _ _ => none
  | n + 1 => fun β f args H k =>
    match E.fs f with
    | some i =>
      match Nat.ble args.length i.ntmps with
      | true => evalBody E.ti (prims E (evalFn E n) β) n i args H k
      | false => none
    | none => none

noncomputable def tree (E : Env) (n : Nat) (ty : Nat) (f : FuncId) (args : List AV) : Option AV := treeOf E (evalFn E n) ty f args

end Go.Proofs.Ytfpmccedangjoaa.Abs
