/- What the proof needs, part 1: a sound evaluator over trees, the program's functions on it, and what they come to. -/
import Derived.Calls
import Derived.Laws.Entries
import Derived.Below
import Derived.Laws.StructEq
import Derived.Laws.Cells
import Derived.Laws.CopyRow
import Derived.Laws.IdiomCopy
import Derived.Laws.NewFold
import Derived.Maps.AppendAt
import Derived.WalkKit
import Derived.Laws.BytesString
import Derived.Laws.IdiomStrings
import Derived.Laws.Append
import Derived.Laws.AppendOwn
import Derived.Lib.AppendStr
import Derived.Laws.MakeOwn
import Derived.Lib.ConvBytes
import Derived.Laws.Tables
import Derived.Great.BuildSlice
import Derived.Orders
import Derived.Still
import Derived.OrdersHeld
import Derived.LoopN
import Derived.Deep.Slices
import Derived.ChangeShapes
import Derived.WideShapes
import Derived.Carry
set_option linter.unusedVariables false
namespace Go.Proofs.YtlcpigdmekgajaaGreatDoor.Abs
open _root_.Bool renaming false_eq_true → zaa, and_eq_true → zag, not_true → zau, true_and → za2, false_and → za4, false_or → za7, or_eq_true → zaK, or_false → zb4
open _root_.Option renaming bind_eq_some_iff → zab, bind_some → zad, getD_some → zaG, map_eq_some_iff → zaM, bind_eq_bind → zaP, pure_def → zbh
open _root_.List renaming getElem?_eq_some_iff → zac, length_append → zae, append_assoc → zaf, getElem?_append_right → zaj, replicate → zak, getElem?_append_left → zal, append_nil → zam, length_cons → zan, eq_nil_of_length_eq_zero → zar, map_cons → zat, mem_cons_of_mem → zav, all_cons → zaz, mem_cons_self → za1, flatten_cons → za3, mem_append_left → za8, all_eq_true → za9, mem_append_right → zaE, mapM_cons → zaI, take_length → zaJ, drop_zero → zaN, mem_append → zaQ, getElem?_eq_getElem → zaS, getElem?_map → zaY, getElem?_drop → zba, nodup_append → zbf, getElem?_cons_zero → zbi, foldl_cons → zbj, replicate_succ → zbn, nodup_cons → zbr, getElem?_take_of_lt → zbt, length_eq_one_iff → zb0, mem_cons → zb9, flatten_nil → zbA, ne_nil_of_mem → zbD, mem_map → zbS, map_map → zbT
open _root_.ByteArray renaming ext → zbO
open _root_.Nat renaming le_refl → zao, zero_le → zay, zero_add → za0, le_trans → zaA, add_assoc → zaH, add_zero → zaR, eq_of_beq_eq_true → zaT, sub_self → zbe, add_sub_cancel_left → zbv, lt_of_lt_of_le → zb2, succ_mul → zb3, beq → zbC, add_mul → zbK, add_comm → zbM
open _root_.Array renaming getElem?_eq_some_iff → zaB, ext' → zbk, getElem?_eq_none → zbz, all_eq_true_iff_forall_mem → zb6, replicate → zb7, getElem?_setIfInBounds_ne → zb8, getD_eq_getD_getElem? → zbE
section
open Go
theorem Cr {a b : Nat} (h : Nat.ble a b = true) : a ≤ b := Nat.le_of_ble_eq_true h
inductive AV where
 | any
 | sc (v : Value)
 | nl
 | ro (len : Nat) (cells : List AV)
 | sl (id off len sz : Nat)
 | ptr (id off : Nat)
 | rp (cells : List AV)
 | agg (cells : List AV)
 | tup (vs : List AV)
 | fn (f : FuncId) (first cap : List AV)
 deriving Inhabited
structure Iu where
 cells : List AV
 live : Bool
 app : Bool
 deriving Inhabited
abbrev Ab := List Iu
abbrev KO (β : Type) := AV → Ab → Option β
abbrev si (n : Int) : AV := .sc (.int .i64 n)
abbrev su (n : Int) : AV := .sc (.int .u8 n)
abbrev sb (b : Bool) : AV := .sc (.bool b)
abbrev ss (s : ByteArray) : AV := .sc (.string s)
abbrev i0 : AV := si 0
abbrev bF : AV := sb false
abbrev bT : AV := sb true
abbrev sE : AV := ss ⟨#[]⟩
abbrev Ed : List AV := [i0, bF, i0, bF, i0, sE, .nl, sE, i0, bF, i0, bF, sE, .nl, i0, bF, bF, sE, bF, .nl, i0, bF, .nl, .nl, .nl]
theorem F3 : (∀ b, (true && b) = b) ∧ (∀ b, (b && true) = b) ∧ (∀ b, (false && b) = false) ∧ (∀ b, (b && false) = false) ∧ (∀ b, (true || b) = true) ∧ (∀ b, (b || true) = true) ∧ (∀ b, (false || b) = b) ∧ (∀ b, (b || false) = b) ∧ (!true) = false ∧ (!false) = true := by simp
theorem Ea (p : Prop) [Decidable p] : ((decide p = true) = p) ∧ ((decide p = false) ↔ ¬ p) := by simp
def Tr : Value → AV
 | .slice none 0 0 => .nl
 | v => .sc v
def ofValue : Value → AV
 | .agg cs => .agg (cs.toList.map Tr)
 | v => Tr v
def Mz : Value → Bool
 | .agg _ => false
 | .tuple _ => false
 | _ => true
def A2 : AV → Bool
 | .sc v => Mz v
 | .any => false
 | .agg _ => false
 | .tup _ => false
 | _ => true
def Ev : AV → Option (List AV)
 | .agg cs => if cs.all A2 then some cs else none
 | v => if A2 v then some [v] else none
inductive PI where
 | nil
 | one (i : Nat) (r : PI)
 | two (i : Nat) (r : PI) (j : Nat) (q : PI)
 | alt (i : Nat) (r q : PI)
 | ld (i : Nat) (r : PI)
 | st (i t : Nat) (r : PI)
def PI.of : List Nat → PI
 | [] => .nil
 | i :: l => .one i (PI.of l)
def PI.len : PI → Nat
 | .nil => 0
 | .one _ r => r.len + 1
 | .two _ r _ _ => r.len + 1
 | .alt _ r _ => r.len + 1
 | .ld _ r => r.len + 1
 | .st _ _ r => r.len + 1
def PI.rts : PI → List (Nat × Nat)
 | .nil => []
 | .one _ r => r.rts
 | .two _ r _ q => r.rts ++ q.rts
 | .alt _ r q => r.rts ++ q.rts
 | .ld _ r => r.rts
 | .st i t r => (i, t) :: r.rts
inductive PT where
 | nil
 | one (o : Oper) (r : PT)
 | two (o : Oper) (r : PT) (o' : Oper) (q : PT)
 | alt (o : Oper) (r q : PT)
 | ld (o : Oper) (ts : List Nat) (r : PT)
 | st (o : Oper) (t : Nat) (r : PT)
structure TI where
 isAgg : Bool
 sl : Bool
 size : Nat
 bytes : Nat
 zero : List Value
 elem : Nat
 fields : List (Nat × Nat)
 ik : Option IntKind
 isStr : Bool
 isB : Bool
 cty : List Nat
 eqs : Bool
 deriving Inhabited
structure E7 where
 body : Code
 ntmps : Nat
 results : List ResultVar
 ords : List (Nat × PI)
structure O9 where
 ti : Nat → Option TI
 tp : Nat → Option (List Nat)
 fs : FuncId → Option E7
 ext : FuncId → Option (Nat → List AV → Option AV)
 hm : FuncId → Bool
 xk : FuncId → Option (Bool × Nat × Nat) := fun _ => none
inductive Ex where
 | normal
 | exit (id : Nat)
 | ret
section El
variable {β : Type}
abbrev Tm := List (Nat × AV)
def gt : Tm → Nat → AV
 | [], _ => .any
 | (j, v) :: r, i => if zbC j i then v else gt r i
def nrm (nt : Nat) (tm : Tm) : Tm := (List.range nt).map fun i => (i, gt tm i)
def ev (tm : Tm) : Operand → AV
 | .tmp n => gt tm n
 | .const v => ofValue v
 | .func f => .fn f [] []
 | .global _ => .any
def As (H : Ab) (id off n : Nat) : Option (List AV) :=
 match H[id]? with
 | some b => if b.live then (if off + n ≤ b.cells.length then some ((b.cells.drop off).take n) else none) else none
 | none => none
def one (cs : List AV) : Option AV :=
 match cs with
 | [c] => some c
 | _ => none
def Bx (a : Bool) (n : Nat) (x : AV) (H : Ab) (k : AV → Option β) : Option β :=
 match x with
 | .ptr id off => (As H id off n).bind fun cs => if a then k (.agg cs) else (one cs).bind k
 | .rp cells => if n ≤ cells.length then (if a then k (.agg (cells.take n)) else (one (cells.take n)).bind k) else none
 | _ => none
def Fh (cs : List AV) (off : Nat) (vs : List AV) : List AV := cs.take off ++ vs ++ cs.drop (off + vs.length)
def Ej (n : Nat) (x y : AV) (H : Ab) (k : Ab → Option β) : Option β :=
 match x with
 | .ptr id off =>
  match H[id]? with
  | some b => (Ev y).bind fun cs => if b.live then (if cs.length = n then (if off + n ≤ b.cells.length then k (H.set id { b with cells := Fh b.cells off cs }) else none) else none) else none
  | none => none
 | _ => none
def Xw (cs : List AV) (H : Ab) (k : AV → Ab → Option β) : Option β := k (.ptr H.length 0) (H ++ [⟨cs, true, true⟩])
def Xr (x : AV) (H : Ab) (k : AV → Ab → Option β) : Option β := (Ev x).bind fun cs => Xw cs H k
def G5 (len sz : Nat) (cs : List AV) (a : Bool) (H : Ab) (k : AV → Ab → Option β) : Option β := k (.sl H.length 0 len sz) (H ++ [⟨cs, true, a⟩])
def Dh (off : Nat) (x : AV) (k : AV → Option β) : Option β :=
 match x with
 | .ptr id o => k (.ptr id (o + off))
 | .rp cells => k (.rp (cells.drop off))
 | _ => none
def Ai6 (a : Bool) (off n : Nat) (x : AV) (k : AV → Option β) : Option β :=
 match x with
 | .agg cs => if off + n ≤ cs.length then (if a then k (.agg ((cs.drop off).take n)) else (one ((cs.drop off).take n)).bind k) else none
 | _ => none
def asI : AV → Option Int
 | .sc (.int _ n) => some n
 | _ => none
def asB : AV → Option Bool
 | .sc (.bool b) => some b
 | _ => none
def asS : AV → Option ByteArray
 | .sc (.string s) => some s
 | _ => none
def Dj (sz : Nat) (x i : AV) (k : AV → Option β) : Option β :=
 (asI i).bind fun n =>
 match x with
 | .sl id off len z => if z = sz then (if 0 ≤ n ∧ n < len then k (.ptr id (off + n.toNat * sz)) else none) else none
 | .ro len cells => if 0 ≤ n ∧ n < len then (if n.toNat * sz < cells.length then k (.rp (cells.drop (n.toNat * sz))) else none) else none
 | _ => none
def AfB (x i : AV) (k : AV → Option β) : Option β :=
 (asI i).bind fun n => (asS x).bind fun s => if h : 0 ≤ n ∧ n.toNat < s.size then k (.sc (.int .u8 (s[n.toNat]'h.2).toNat)) else none
def Xu (x : AV) (k : AV → Option β) : Option β := (asS x).bind fun s => k (.sc (.int .i64 s.size))
def Ik (x : AV) (k : AV → Option β) : Option β :=
 match x with
 | .nl => k (.sc (.int .i64 0))
 | .ro n _ => k (.sc (.int .i64 n))
 | .sl _ _ n _ => k (.sc (.int .i64 n))
 | _ => none
def Jn : AV → Option Nat
 | .sc (.string s) => some s.size
 | .nl => some 0
 | .ro n _ => some n
 | .sl _ _ n _ => some n
 | _ => none
def K2 (x : Option AV) (d : Int) : Option Int :=
 match x with
 | none => some d
 | some v => asI v
def Qz (x : AV) (lo hi : Option AV) (k : AV → Option β) : Option β :=
 (asS x).bind fun s => (K2 lo 0).bind fun l => (K2 hi s.size).bind fun h => if 0 ≤ l ∧ l ≤ h ∧ h ≤ s.size then k (.sc (.string (s.extract l.toNat h.toNat))) else none
def Mf (sz : Nat) (x : AV) (lo hi : Option AV) (k : AV → Option β) : Option β :=
 (Jn x).bind fun n => (K2 lo 0).bind fun l => (K2 hi n).bind fun h =>
 if 0 ≤ l ∧ l ≤ h ∧ h ≤ n then
  match x with
  | .nl => k .nl
  | .ro _ cells => k (.ro (h - l).toNat ((cells.drop (l.toNat * sz)).take ((h - l).toNat * sz)))
  | .sl id off _ z => if z = sz then k (.sl id (off + l.toNat * sz) (h - l).toNat sz) else none
  | _ => none
 else none
def Ba (s : ByteArray) : List AV := s.data.toList.map fun b => .sc (.int .u8 b.toNat)
def Kx : AV → Option UInt8
 | .sc (.int .u8 n) => some (UInt8.ofNat n.toNat)
 | _ => none
def Dn (H : Ab) (sz : Nat) : AV → Option (List AV)
 | .nl => some []
 | .ro n cells => if cells.length = n * sz then some cells else none
 | .sl id off n z => if z = sz then As H id off (n * sz) else none
 | _ => none
def Tn (H : Ab) : AV → Option Ab
 | .nl => some H
 | .sl id _ _ _ => (H[id]?).bind fun b => if b.app then some (H.set id { b with live := false }) else none
 | _ => none
def Lk (sz bytes : Nat) (x y : AV) (H : Ab) (k : AV → Ab → Option β) : Option β :=
 (Jn x).bind fun n => (Jn y).bind fun m => (Dn H sz x).bind fun cx => (Dn H sz y).bind fun cy => (Tn H x).bind fun H1 =>
 if (n + m) * bytes ≤ 140737488355328 then (if cy.all A2 then G5 (n + m) sz (cx ++ cy) true H1 k else none) else none
def Xp (bytes : Nat) (x y : AV) (H : Ab) (k : AV → Ab → Option β) : Option β :=
 (Jn x).bind fun n => (asS y).bind fun s => (Dn H 1 x).bind fun cx => (Tn H x).bind fun H1 =>
 if (n + s.size) * bytes ≤ 140737488355328 then G5 (n + s.size) 1 (cx ++ Ba s) true H1 k else none
def AfV (op : BinOp) (k : IntKind) (a b : Int) : Option Value :=
 match op with
 | .add => some (.int k (k.wrap (a + b)))
 | .sub => some (.int k (k.wrap (a - b)))
 | .mul => some (.int k (k.wrap (a * b)))
 | .quo => if b = 0 then none else some (.int k (k.wrap (a.tdiv b)))
 | .rem => if b = 0 then none else some (.int k (a.tmod b))
 | .and => some (.int k (bits .and k a b))
 | .or => some (.int k (bits .or k a b))
 | .xor => some (.int k (bits .xor k a b))
 | .eql => some (.bool (a == b))
 | .neq => some (.bool (a != b))
 | .lss => some (.bool (decide (a < b)))
 | .leq => some (.bool (decide (a ≤ b)))
 | .gtr => some (.bool (decide (a > b)))
 | .geq => some (.bool (decide (a ≥ b)))
 | _ => none
def shI (op : BinOp) (k : IntKind) (a b : Int) : Option Value :=
 if 0 ≤ b ∧ b ≤ k.bits then
  match op with
  | .shl => some (.int k (k.wrap (a * 2 ^ b.toNat)))
  | .shr => some (.int k (a / 2 ^ b.toNat))
  | _ => none
 else none
def Yq (op : BinOp) (x y : ByteArray) : Option Value :=
 match op with
 | .add => if x.size + y.size ≤ 9223372036854775807 then some (.string (x ++ y)) else none
 | .eql => some (.bool (x.toList == y.toList))
 | .neq => some (.bool (!(x.toList == y.toList)))
 | .lss => some (.bool (Op.bytesLess x.toList y.toList))
 | .leq => some (.bool (Op.bytesLess x.toList y.toList || x.toList == y.toList))
 | .gtr => some (.bool (!(Op.bytesLess x.toList y.toList || x.toList == y.toList)))
 | .geq => some (.bool (!Op.bytesLess x.toList y.toList))
 | _ => none
def binB (op : BinOp) (x y : Bool) : Option Value :=
 match op with
 | .eql => some (.bool (x == y))
 | .neq => some (.bool (!(x == y)))
 | _ => none
def AkG : BinOp → Bool
 | .shl => true
 | .shr => true
 | _ => false
def Bz (op : BinOp) (x y : AV) (k : AV → Option β) : Option β :=
 match x, y with
 | .sc (.int ka a), .sc (.int kb b) => if AkG op then (shI op ka a b).bind fun v => k (.sc v) else (if ka = kb then (AfV op ka a b).bind fun v => k (.sc v) else none)
 | .sc (.string a), .sc (.string b) => (Yq op a b).bind fun v => k (.sc v)
 | _, _ => none
def Nw (op : BinOp) (x y : AV) (k : AV → Option β) : Option β := (asB x).bind fun a => (asB y).bind fun b => (binB op a b).bind fun v => k (.sc v)
def Abq (j : TI) : Option Nat := if j.isB then some 2 else if j.ik.isSome then some 0 else if j.isStr then some 1 else none
def Sl (ti : Nat → Option TI) : List (Nat × Nat) → Nat → Option (List Nat)
 | [], _ => some []
 | (o, t) :: r, e =>
  match zbC o e, ti t with
  | true, some j =>
   match Abq j, Sl ti r (e + 1) with
   | some q, some l => some (q :: l)
   | _, _ => none
  | _, _ => none
def Acn (q : Nat) (a b : Value) : Option Bool :=
 match q, a, b with
 | 0, .int ka x, .int kb y => if ka = kb then some (x == y) else none
 | 1, .string x, .string y => some (x.toList == y.toList)
 | 2, .bool x, .bool y => some (x == y)
 | _, _, _ => none
def Mu : List Nat → List AV → List AV → Option Bool
 | [], [], [] => some true
 | q :: qs, .sc a :: cs, .sc b :: ds => (Acn q a b).bind fun r => if r then Mu qs cs ds else some false
 | _, _, _ => none
def Ra (op : BinOp) (qs : List Nat) (x y : AV) (k : AV → Option β) : Option β :=
 match x, y with
 | .agg cs, .agg ds => (Mu qs cs ds).bind fun b =>
  match op with
  | .eql => k (.sc (.bool b))
  | .neq => k (.sc (.bool (!b)))
  | _ => none
 | _, _ => none
def pUn (op : UnOp) (x : AV) (k : AV → Option β) : Option β :=
 match op, x with
 | .not, .sc (.bool b) => k (.sc (.bool (!b)))
 | .neg, .sc (.int i n) => k (.sc (.int i (i.wrap (0 - n))))
 | _, _ => none
def M1 (c a b : AV) (k : AV → Option β) : Option β :=
 (asB c).bind fun t =>
 match a, b with
 | .sc x, .sc y => k (.sc (if t then x else y))
 | _, _ => if t then k a else k b
def Xs (i : IntKind) (x : AV) (k : AV → Option β) : Option β := (asI x).bind fun n => k (.sc (.int i (i.wrap n)))
def AdU (x : AV) (k : AV → Option β) : Option β := (asS x).bind fun s => k (.sc (.string s))
def O8 (x : AV) (H : Ab) (k : AV → Option β) : Option β := (Dn H 1 x).bind fun cs => (cs.mapM Kx).bind fun bs => k (.sc (.string ⟨bs.toArray⟩))
def Xt (x : AV) (H : Ab) (k : AV → Ab → Option β) : Option β := (asS x).bind fun s => if s.size ≤ 140737488355328 then G5 s.size 1 (Ba s) false H k else none
def Sw (x : AV) (i : Nat) (k : AV → Option β) : Option β :=
 match x with
 | .tup vs => (vs[i]?).bind k
 | _ => none
def Ai7 (x : AV) (k : AV → Option β) : Option β :=
 match x with
 | .ptr id off => k (.ptr id off)
 | .rp cs => k (.rp cs)
 | .fn f a b => k (.fn f a b)
 | _ => none
def Ji (cells : List AV) : List (Nat × Nat × AV) → Option (List AV)
 | [] => some cells
 | (off, n, v) :: rest => (Ev v).bind fun cs => if cs.length = n then (if off + n ≤ cells.length then Ji (Fh cells off cs) rest else none) else none
def Xv (sz bytes : Nat) (z : List AV) (x y : AV) (H : Ab) (k : AV → Ab → Option β) : Option β :=
 (asI x).bind fun n => (asI y).bind fun m => if n = m then (if 0 ≤ n then (if n.toNat * bytes ≤ 140737488355328 then G5 n.toNat sz ((zak n.toNat z).flatten) true H k else none) else none) else none
def Tv (sz : Nat) (z : List AV) (x : AV) (H : Ab) (k : Ab → Option β) : Option β :=
 match x with
 | .nl => k H
 | .sl id off n s => if s = sz then (match n with
  | 0 => k H
  | n + 1 => match H[id]? with
   | some kk => if kk.live then (if off + (n + 1) * sz ≤ kk.cells.length then k (H.set id { kk with cells := Fh kk.cells off ((zak (n + 1) z).flatten) }) else none) else none
   | none => none) else none
 | _ => none
def Aqa (sz : Nat) (x i j : AV) (H : Ab) (k : AV → Ab → Option β) : Option β :=
 match x, i, j with
 | .sl id off n z, .sc (.int .i64 a), .sc (.int .i64 b) =>
  if z = sz ∧ 0 ≤ a ∧ a < b ∧ b ≤ n then (As H id off (n * sz)).bind fun cx => if cx.all A2 then (Tn H (.sl id off n z)).bind fun H1 => G5 (n - (b - a).toNat) sz (cx.take (a.toNat * sz) ++ cx.drop (b.toNat * sz)) true H1 k else none else none
 | _, _, _ => none
def Aqb (sz bytes : Nat) (x i y : AV) (H : Ab) (k : AV → Ab → Option β) : Option β :=
 match i, y with
 | .sc (.int .i64 a), .sl id off m z =>
  (Jn x).bind fun n => if z = sz ∧ 0 ≤ a ∧ a ≤ n ∧ 0 < m ∧ (n + m) * bytes ≤ 140737488355328 then (Dn H sz x).bind fun cx => (Tn H x).bind fun H1 => (As H1 id off (m * sz)).bind fun cy => if cx.all A2 && cy.all A2 then G5 (n + m) sz (cx.take (a.toNat * sz) ++ (cy ++ cx.drop (a.toNat * sz))) true H1 k else none else none
 | _, _ => none
def pXk (q : Bool × Nat × Nat) (args : List AV) (H : Ab) (k : AV → Ab → Option β) : Option β :=
 match q.1, args with
 | false, [x, i, j] => Aqa q.2.1 x i j H k
 | true, [x, i, y] => Aqb q.2.1 q.2.2 x i y H k
 | _, _ => none
def Fg (c : AV) (t : Bool) (H : Ab) (m : (AV → Ab → Option β) → Option β) (k : AV → Ab → Option β) : Option β :=
 match c with
 | .sc (.bool b) => if b = t then m k else k (.sc undef) H
 | .any => none
 | _ => k (.sc undef) H
def D4 {α : Sort _} {γ : Type} (x : α) (f : α → γ) : γ := f x
def C8 (c : AV) (a b : Option β) : Option β := (asB c).bind fun t => if t then a else b
noncomputable def Qd (a b : Option β) : Option β := @ite _ (a = b) (Classical.propDecidable _) a none
theorem Xq {a b : Option β} {r : β} (h : Qd a b = some r) : a = some r ∧ b = some r := by
 unfold Qd at h
 by_cases e : a = b
 ·rw [if_pos e] at h
  exact ⟨h, e ▸ h⟩
 ·rw [if_neg e] at h
  cases h
theorem Ab9 {a b r : Option β} (h1 : a = r) (h2 : b = r) : Qd a b = r := by
 unfold Qd
 rw [if_pos (h1.trans h2.symm), h1]
def Vo (x : AV) (ts : List AV) (H : Ab) : Bool :=
 match x with
 | .ptr id _ => (match H[id]? with | some b => b.live | none => false) && ts.all fun y => match y with
  | .ptr id' _ => id != id' && (match H[id']? with | some b => b.live | none => false)
  | _ => false
 | _ => false
def Oz (x : AV) (ts : List AV) (H : Ab) (m : Option β) : Option β := if Vo x ts H then m else none
def Sx (x y : AV) (m : Option β) : Option β :=
 match x, y with
 | .ptr id _, .ptr id' _ => if id = id' then m else none
 | _, _ => none
def C5 (H : Ab) : Nat → AV → Option AV
 | 0, _ => none
 | d + 1, x =>
  match x with
  | .sc v => some (.sc v)
  | .nl => some (.ro 0 [])
  | .ro n cs => some (.ro n cs)
  | .sl id off n z => (As H id off (n * z)).bind fun cs => (cs.mapM (C5 H d)).bind fun vs => some (.ro n vs)
  | .agg cs => (cs.mapM (C5 H d)).bind fun vs => some (.agg vs)
  | .tup cs => (cs.mapM (C5 H d)).bind fun vs => some (.tup vs)
  | .rp cs => some (.rp cs)
  | .ptr id off => (H[id]?).bind fun b => (As H id off (b.cells.length - off)).bind fun cs => (cs.mapM (C5 H d)).bind fun vs => some (.rp vs)
  | .fn f a c => (a.mapM (C5 H d)).bind fun as => (c.mapM (C5 H d)).bind fun cs => some (.fn f as cs)
  | .any => none
def Di (f : Nat → AV → Option (AV × List Nat)) : List Nat → List AV → Option (List AV × List Nat)
 | [], [] => some ([], [])
 | t :: ts, x :: xs => (f t x).bind fun p => (Di f ts xs).bind fun q => some (p.1 :: q.1, p.2 ++ q.2)
 | _, _ => none
def Jj (H : Ab) (id : Nat) : Bool :=
 match H[id]? with
 | some b => b.app
 | none => false
def Cz (ti : Nat → Option TI) (tp : Nat → Option (List Nat)) (H : Ab) : Nat → Nat → AV → Option (AV × List Nat)
 | 0, _, _ => none
 | d + 1, ty, x =>
  match x with
  | .sc v => some (.sc v, [])
  | .nl => some (.ro 0 [], [])
  | .sl id off n z => (ti ty).bind fun i => (ti i.elem).bind fun j => if z = j.size then (if Jj H id then (As H id off (n * z)).bind fun cs => (Di (Cz ti tp H d) (zak n j.cty).flatten cs).bind fun q => some (.ro n q.1, id :: q.2) else none) else none
  | .agg cs => (ti ty).bind fun i => (Di (Cz ti tp H d) i.cty cs).bind fun q => some (.agg q.1, q.2)
  | .tup cs => (tp ty).bind fun ts => (Di (Cz ti tp H d) ts cs).bind fun q => some (.tup q.1, q.2)
  | _ => none
def A4 (ti : Nat → Option TI) (tp : Nat → Option (List Nat)) (ty : Nat) (H : Ab) (x : AV) : Option AV := (Cz ti tp H 8 ty x).bind fun p => if p.2.Nodup then some p.1 else none
mutual
def Bk (ti : Nat → Option TI) (tp : Nat → Option (List Nat)) (n ty : Nat) : AV → AV × List Iu
 | .sc v => (.sc v, [])
 | .ro len cells =>
  let j := ((ti ty).bind fun i => ti i.elem).getD default
  let p := Ap ti tp (n + 1) (zak len j.cty).flatten cells
  (.sl n 0 len j.size, ⟨p.1, true, true⟩ :: p.2)
 | .agg cs => let p := Ap ti tp n ((ti ty).getD default).cty cs; (.agg p.1, p.2)
 | .tup cs => let p := Ap ti tp n ((tp ty).getD []) cs; (.tup p.1, p.2)
 | _ => (.any, [])
def Ap (ti : Nat → Option TI) (tp : Nat → Option (List Nat)) (n : Nat) (ts : List Nat) : List AV → List AV × List Iu
 | [] => ([], [])
 | x :: xs => let p := Bk ti tp n (ts.headD 0) x; let q := Ap ti tp (n + p.2.length) ts.tail xs; (p.1 :: q.1, p.2 ++ q.2)
end
end El
def Cal := ∀ (β : Type), FuncId → List AV → Ab → (AV → Ab → Option β) → Option β
section code
variable (E : O9) (cal : Cal) {β : Type}
def T2 (ty : Nat) (f : FuncId) (args : List AV) : Option AV := cal AV f args [] (fun x H => A4 E.ti E.tp ty H x)
def AaS (ty : Nat) (f : FuncId) (args : List AV) (H : Ab) (k : AV → Ab → Option β) : Option β :=
 (args.mapM (C5 H 8)).bind fun vs => (T2 E cal ty f vs).bind fun t => k (Bk E.ti E.tp H.length ty t).1 (H ++ (Bk E.ti E.tp H.length ty t).2)
def Adm (ty : Nat) (g : Nat → List AV → Option AV) (args : List AV) (H : Ab) (k : AV → Ab → Option β) : Option β :=
 (args.mapM (C5 H 8)).bind fun vs => (g ty vs).bind fun t => k (Bk E.ti E.tp H.length ty t).1 (H ++ (Bk E.ti E.tp H.length ty t).2)
def Ms (ty : Nat) (f : FuncId) (args : List AV) (H : Ab) (k : AV → Ab → Option β) : Option β :=
 match E.ext f with
 | some g => Adm E ty g args H k
 | none => if E.hm f then cal β f args H k else AaS E cal ty f args H k
def Amb (ty : Nat) (x : AV) (args : List AV) (H : Ab) (k : AV → Ab → Option β) : Option β :=
 match x with
 | .fn f first cap => Ms E cal ty f (first ++ args ++ cap) H k
 | _ => none
end code
structure Pr (β : Type) where
 load : Bool → Nat → AV → Ab → (AV → Option β) → Option β
 store : Nat → AV → AV → Ab → (Ab → Option β) → Option β
 new : List AV → Ab → (AV → Ab → Option β) → Option β
 box : AV → Ab → (AV → Ab → Option β) → Option β
 newSl : Nat → Nat → List AV → Bool → Ab → (AV → Ab → Option β) → Option β
 fadr : Nat → AV → (AV → Option β) → Option β
 fld : Bool → Nat → Nat → AV → (AV → Option β) → Option β
 iadr : Nat → AV → AV → (AV → Option β) → Option β
 idx : AV → AV → (AV → Option β) → Option β
 lenS : AV → (AV → Option β) → Option β
 len : AV → (AV → Option β) → Option β
 sliceS : AV → Option AV → Option AV → (AV → Option β) → Option β
 slice : Nat → AV → Option AV → Option AV → (AV → Option β) → Option β
 app : Nat → Nat → AV → AV → Ab → (AV → Ab → Option β) → Option β
 appS : Nat → AV → AV → Ab → (AV → Ab → Option β) → Option β
 bin : BinOp → AV → AV → (AV → Option β) → Option β
 binB : BinOp → AV → AV → (AV → Option β) → Option β
 binA : BinOp → List Nat → AV → AV → (AV → Option β) → Option β
 un : UnOp → AV → (AV → Option β) → Option β
 pick : AV → AV → AV → (AV → Option β) → Option β
 cvI : IntKind → AV → (AV → Option β) → Option β
 cvSS : AV → (AV → Option β) → Option β
 cvBS : AV → Ab → (AV → Option β) → Option β
 cvSB : AV → Ab → (AV → Ab → Option β) → Option β
 extr : AV → Nat → (AV → Option β) → Option β
 nil : AV → (AV → Option β) → Option β
 fill : List AV → List (Nat × Nat × AV) → (List AV → Option β) → Option β
 make : Nat → Nat → List AV → AV → AV → Ab → (AV → Ab → Option β) → Option β
 clear : Nat → List AV → AV → Ab → (Ab → Option β) → Option β
 guard : AV → Bool → Ab → ((AV → Ab → Option β) → Option β) → (AV → Ab → Option β) → Option β
 cond : AV → Option β → Option β → Option β
 both : Option β → Option β → Option β
 apart : AV → List AV → Ab → Option β → Option β
 same : AV → AV → Option β → Option β
 call : Nat → AV → List AV → Ab → (AV → Ab → Option β) → Option β
section
variable {β : Type}
abbrev Pr.gT (p : Pr β) (c : AV) (H : Ab) (m : (AV → Option β) → Option β) (k : AV → Ab → Option β) : Option β := p.guard c true H (fun k' => m fun t' => k' t' H) k
abbrev Pr.hT (p : Pr β) (c : AV) (H : Ab) (m : (AV → Ab → Option β) → Option β) (k : AV → Ab → Option β) : Option β := p.guard c true H (fun k' => m fun t' H => k' t' H) k
abbrev Pr.kT (p : Pr β) (c : AV) (H : Ab) (v : AV) (k : AV → Ab → Option β) : Option β := p.guard c true H (fun k' => k' v H) k
abbrev Pr.gF (p : Pr β) (c : AV) (H : Ab) (m : (AV → Option β) → Option β) (k : AV → Ab → Option β) : Option β := p.guard c false H (fun k' => m fun t' => k' t' H) k
abbrev Pr.hF (p : Pr β) (c : AV) (H : Ab) (m : (AV → Ab → Option β) → Option β) (k : AV → Ab → Option β) : Option β := p.guard c false H (fun k' => m fun t' H => k' t' H) k
abbrev Pr.kF (p : Pr β) (c : AV) (H : Ab) (v : AV) (k : AV → Ab → Option β) : Option β := p.guard c false H (fun k' => k' v H) k
end
section
variable {β : Type}
abbrev Pr.fl (p : Pr β) (i : Nat) (t : AV) (n : Nat) (H : Ab) (k : AV → Option β) : Option β := p.fadr i t fun x => p.load false n x H k
abbrev Pr.fs (p : Pr β) (i : Nat) (t : AV) (n : Nat) (v : AV) (H : Ab) (k : Ab → Option β) : Option β := p.fadr i t fun x => p.store n x v H k
abbrev Pr.ca (p : Pr β) (y f : Nat) (l : List AV) (H : Ab) (k : AV → Ab → Option β) : Option β := p.call y (.fn f [] []) l H k
abbrev Pr.lT (p : Pr β) (c : AV) (H : Ab) (i : Nat) (t : AV) (n : Nat) (k : AV → Ab → Option β) : Option β := p.guard c true H (fun k' => p.fadr i t fun x => k' x H) fun x H => p.guard c true H (fun k' => p.load false n x H fun x => k' x H) k
abbrev Pr.lF (p : Pr β) (c : AV) (H : Ab) (i : Nat) (t : AV) (n : Nat) (k : AV → Ab → Option β) : Option β := p.guard c false H (fun k' => p.fadr i t fun x => k' x H) fun x H => p.guard c false H (fun k' => p.load false n x H fun x => k' x H) k
end
noncomputable def El (E : O9) (cal : Cal) (β : Type) : Pr β where
 load := Bx
 store := Ej
 new := Xw
 box := Xr
 newSl := G5
 fadr := Dh
 fld := Ai6
 iadr := Dj
 idx := AfB
 lenS := Xu
 len := Ik
 sliceS := Qz
 slice := Mf
 app := Lk
 appS := Xp
 bin := Bz
 binB := Nw
 binA := Ra
 un := pUn
 pick := M1
 cvI := Xs
 cvSS := AdU
 cvBS := O8
 cvSB := Xt
 extr := Sw
 nil := Ai7
 fill := fun a l k => (Ji a l).bind k
 make := Xv
 clear := Tv
 guard := Fg
 cond := C8
 both := Qd
 apart := Oz
 same := Sx
 call := Amb E cal
section run
variable {β : Type} (ti : Nat → Option TI) (p : Pr β)
def Hu (i : TI) : List AV := i.zero.map Tr
def O0 (ev : Operand → AV) (place : Nat → Option (Nat × Nat)) : List (Nat × Operand) → Option (List (Nat × Nat × AV))
 | [] => some []
 | (i, x) :: rest =>
  match place i, O0 ev place rest with
  | some (off, n), some l => some ((off, n, ev x) :: l)
  | _, _ => none
def Jq (op : Op) (ty : TypeId) (tm : Tm) (H : Ab) (k : AV → Ab → Option β) : Option β :=
 match op with
 | .move x => k (ev tm x) H
 | .assign x => k (ev tm x) H
 | .pick c a b => p.pick (ev tm c) (ev tm a) (ev tm b) fun v => k v H
 | .alloc t =>
  match ti t with
  | some i => p.new (Hu i) H k
  | none => none
 | .box _ x => p.box (ev tm x) H k
 | .build t parts =>
  match ti t with
  | some i =>
   match i.isAgg, O0 (ev tm) (fun f => match i.fields[f]? with | some (o, ft) => (match ti ft with | some j => some (o, j.size) | none => none) | none => none) parts.toList with
   | true, some l => p.fill (Hu i) l fun cs => k (.agg cs) H
   | _, _ => none
  | none => none
 | .buildSlice t len parts =>
  match ti t with
  | some i =>
   match i.sl, ti i.elem with
   | true, some j =>
    match len, O0 (ev tm) (fun f => some (f * j.size, j.size)) parts.toList with
    | 0, some [] => k .nl H
    | n + 1, some l => match Nat.ble ((n + 1) * j.size) 16777216 with
     | true => p.fill ((zak (n + 1) (Hu j)).flatten) l fun cs => p.newSl (n + 1) j.size cs true H k
     | false => none
    | _, _ => none
   | _, _ => none
  | none => none
 | .load t x =>
  match ti t with
  | some i => p.load i.isAgg i.size (ev tm x) H fun v => k v H
  | none => none
 | .store t x y =>
  match ti t with
  | some i => p.store i.size (ev tm x) (ev tm y) H fun H => k (.sc undef) H
  | none => none
 | .nilCheck x => p.nil (ev tm x) fun v => k v H
 | .binOp op t x y _ =>
  match ti t with
  | some i => match i.isB with
   | true => p.binB op (ev tm x) (ev tm y) fun v => k v H
   | false => match i.eqs with
    | true => match Sl ti i.fields 0 with
     | some qs => p.binA op qs (ev tm x) (ev tm y) fun v => k v H
     | none => none
    | false => p.bin op (ev tm x) (ev tm y) fun v => k v H
  | none => none
 | .unOp op _ x => p.un op (ev tm x) fun v => k v H
 | .convert s d x =>
  match ti s, ti d with
  | some i, some j =>
   match j.ik with
   | some kd => p.cvI kd (ev tm x) fun v => k v H
   | none =>
    match i.isStr, j.isStr with
    | true, true => p.cvSS (ev tm x) fun v => k v H
    | false, true => match i.sl, ti i.elem with
     | true, some e => match e.ik with
      | some .u8 => p.cvBS (ev tm x) H fun v => k v H
      | _ => none
     | _, _ => none
    | true, false => match j.sl, ti j.elem with
     | true, some e => match e.ik with
      | some .u8 => p.cvSB (ev tm x) H k
      | _ => none
     | _, _ => none
    | _, _ => none
  | _, _ => none
 | .fieldAddr t x f =>
  match ti t with
  | some i => match i.isAgg, i.fields[f]? with
   | true, some (o, ft) => match ti ft with
    | some j => match j.size with
     | 0 => none
     | _ + 1 => p.fadr o (ev tm x) fun v => k v H
    | none => none
   | _, _ => none
  | none => none
 | .field t x f =>
  match ti t with
  | some i => match i.isAgg, i.fields[f]? with
   | true, some (o, ft) => match ti ft with
    | some j => p.fld j.isAgg o j.size (ev tm x) fun v => k v H
    | none => none
   | _, _ => none
  | none => none
 | .indexAddr t x y =>
  match ti t with
  | some i => match i.sl, ti i.elem with
   | true, some j => p.iadr j.size (ev tm x) (ev tm y) fun v => k v H
   | _, _ => none
  | none => none
 | .index _ x y => p.idx (ev tm x) (ev tm y) fun v => k v H
 | .slice t x lo hi mx =>
  match mx with
  | some _ => none
  | none =>
   match ti t with
   | some i => match i.isStr with
    | true => p.sliceS (ev tm x) (lo.map (ev tm)) (hi.map (ev tm)) fun v => k v H
    | false => match i.sl, ti i.elem with
     | true, some j => p.slice j.size (ev tm x) (lo.map (ev tm)) (hi.map (ev tm)) fun v => k v H
     | _, _ => none
   | none => none
 | .makeSlice t x y =>
  match ti t with
  | some i => match i.sl, ti i.elem with
   | true, some j => p.make j.size j.bytes (Hu j) (ev tm x) (ev tm y) H k
   | _, _ => none
  | none => none
 | .makeFunc f first cap =>
  match f with
  | .func g => k (.fn g (first.toList.map (ev tm)) (cap.toList.map (ev tm))) H
  | _ => none
 | .extract x i => p.extr (ev tm x) i fun v => k v H
 | .call c =>
  match c.callee with
  | .value f => p.call ty (ev tm f) (c.args.toList.map (ev tm)) H k
  | .builtin b =>
   match b, c.args.toList, c.argTypes.toList with
   | .len, [x], [t] =>
    match ti t with
    | some i => match i.isStr, i.sl with
     | true, _ => p.lenS (ev tm x) fun v => k v H
     | false, true => p.len (ev tm x) fun v => k v H
     | _, _ => none
    | none => none
   | .clear, [x], [t] =>
    match ti t with
    | some i => match i.sl, ti i.elem with
     | true, some j => p.clear j.size (Hu j) (ev tm x) H fun H => k (.sc (.tuple #[])) H
     | _, _ => none
    | none => none
   | .append, [x, y], [t, t'] =>
    match ti t, ti t' with
    | some i, some i' =>
     match i'.ik with
     | some _ => none
     | none => match i.sl, ti i.elem with
      | true, some j => match i'.isStr, i'.sl with
       | true, _ => match j.ik with
        | some .u8 => p.appS j.bytes (ev tm x) (ev tm y) H k
        | _ => none
       | false, true => match zbC i'.elem i.elem with
        | true => p.app j.size j.bytes (ev tm x) (ev tm y) H k
        | false => none
       | _, _ => none
      | _, _ => none
    | _, _ => none
   | _, _, _ => none
  | _ => none
 | _ => none
def Sy (tm : Tm) (d : Option Nat) (v : AV) : Tm :=
 match d with
 | some i => (i, v) :: tm
 | none => tm
def Z4 (all : List Oper) (o : Oper) : Option Operand :=
 match o.op with
 | .call c =>
  match c.callee with
  | .builtin .append =>
   match c.args.toList with
   | .tmp t :: _ => if all.any (fun q => q.dst == some t && (match q.op with | .buildSlice _ 0 _ => true | _ => false)) then some (.tmp t) else none
   | _ => none
  | _ => none
 | _ => none
def AoS : AV → Bool
 | .nl => true
 | _ => false
def Nm (all : List Oper) (o : Oper) (tm : Tm) : Bool :=
 match Z4 all o with
 | some x => AoS (ev tm x)
 | none => true
def Mv (c : Oper → Tm → Bool) (all : List Oper) : List Oper → Tm → Ab → (Tm → Ab → Option β) → Option β
 | [], tm, H, k => k tm H
 | o :: rest, tm, H, k =>
  match c o tm with
  | true =>
   match o.guard with
   | none => Jq ti p o.op o.type tm H fun v H => Mv c all rest (Sy tm o.dst v) H k
   | some (j, t) =>
    match (all[j]?).bind (·.dst) with
    | some d => p.guard (gt tm d) t H (fun k' => Jq ti p o.op o.type tm H k') fun v H => Mv c all rest (Sy tm o.dst v) H k
    | none => none
  | false => none
def Mh (c : Oper → Tm → Bool) (all : List Oper) (o : Oper) (tm : Tm) (H : Ab) (k : Tm → Ab → Option β) : Option β :=
 match c o tm with
 | true =>
  match o.guard with
  | none => Jq ti p o.op o.type tm H fun v H => k (Sy tm o.dst v) H
  | some (j, t) =>
   match (all[j]?).bind (·.dst) with
   | some d => p.guard (gt tm d) t H (fun k' => Jq ti p o.op o.type tm H k') fun v H => k (Sy tm o.dst v) H
   | none => none
 | false => none
def Ua (o : Oper) (tm : Tm) : AV :=
 match o.op with
 | .load _ x => ev tm x
 | .store _ x _ => ev tm x
 | _ => .any
def He (c : Oper → Tm → Bool) (all : List Oper) : PT → Tm → Ab → (Tm → Ab → Option β) → Option β
 | .nil, tm, H, k => k tm H
 | .one o r, tm, H, k => Mh ti p c all o tm H fun tm H => He c all r tm H k
 | .two o r o' q, tm, H, k => p.both (Mh ti p c all o tm H fun tm H => He c all r tm H k) (Mh ti p c all o' tm H fun tm H => He c all q tm H k)
 | .alt o r q, tm, H, k => p.both (Mh ti p c all o tm H fun tm H => He c all r tm H k) (He c all q tm H k)
 | .ld o ts r, tm, H, k => p.apart (Ua o tm) (ts.map (gt tm)) H (Mh ti p c all o tm H fun tm H => He c all r tm H k)
 | .st o t r, tm, H, k => p.same (Ua o tm) (gt tm t) (Mh ti p c all o tm H fun tm H => He c all r tm H k)
def AdQ {α : Type} : List (Nat × α) → Nat → Option α
 | [], _ => none
 | (j, l) :: r, i => if zbC j i then some l else AdQ r i
def Iq (all : List Oper) (ts : List Nat) : PI → Option PT
 | .nil => some .nil
 | .one i l =>
  match all[i]?, Iq all ts l with
  | some o, some r => some (.one o r)
  | _, _ => none
 | .two i l j m =>
  match all[i]?, Iq all ts l, all[j]?, Iq all ts m with
  | some o, some r, some o', some q => some (.two o r o' q)
  | _, _, _, _ => none
 | .alt i l m =>
  match all[i]?, Iq all ts l, Iq all ts m with
  | some o, some r, some q => some (.alt o r q)
  | _, _, _ => none
 | .ld i l =>
  match all[i]?, Iq all ts l with
  | some o, some r => some (.ld o ts r)
  | _, _ => none
 | .st i t l =>
  match all[i]?, Iq all ts l with
  | some o, some r => some (.st o t r)
  | _, _ => none
def PI.tsOf (l : PI) : List Nat := (l.rts.map (·.2)).eraseDups
def Dt (f : Tm → Ab → Option β) (k : Ex → Tm → Ab → Option β) : Ex → Tm → Ab → Option β
 | .normal, tm, H => f tm H
 | .exit i, tm, H => k (.exit i) tm H
 | .ret, tm, H => k .ret tm H
def Eb (id : Nat) (k : Ex → Tm → Ab → Option β) : Ex → Tm → Ab → Option β
 | .normal, tm, H => k .normal tm H
 | .exit i, tm, H => if i = id then k .normal tm H else k (.exit i) tm H
 | .ret, tm, H => k .ret tm H
def C7 (nt : Nat) (body : Tm → Ab → (Ex → Tm → Ab → Option β) → Option β) (k : Ex → Tm → Ab → Option β) : Nat → Tm → Ab → Option β
 | 0, _, _ => none
 | n + 1, tm, H => body tm H (Dt (fun tm H => C7 nt body k n (nrm nt tm) H) k)
def Af (od : List (Nat × PI)) (nt n : Nat) : Code → Tm → Ab → (Ex → Tm → Ab → Option β) → Option β
 | .skip, tm, H, k => k .normal tm H
 | .region _ ops false, tm, H, k => Mv ti p (fun _ _ => true) ops.toList ops.toList tm H fun tm H => k .normal tm H
 | .region id ops true, tm, H, k =>
  match (AdQ od id).bind (fun l => Iq ops.toList l.tsOf l) with
  | some l => He ti p (Nm ops.toList) ops.toList l tm H fun tm H => k .normal tm H
  | none => none
 | .seq a b, tm, H, k => Af od nt n a tm H (Dt (fun tm H => Af od nt n b tm H k) k)
 | .cond c a b, tm, H, k => p.cond (ev tm c) (Af od nt n a tm H k) (Af od nt n b tm H k)
 | .block id body, tm, H, k => Af od nt n body tm H (Eb id k)
 | .loop body, tm, H, k => C7 nt (fun tm H k => Af od nt n body tm H k) k n (nrm nt tm) H
 | .exit id, tm, H, k => k (.exit id) tm H
 | .ret, tm, H, k => k .ret tm H
 | _, _, _, _ => none
def AbG (tm : Tm) (H : Ab) : List ResultVar → (List AV → Option β) → Option β
 | [], k => k []
 | .tmp t :: rest, k => AbG tm H rest fun l => k (gt tm t :: l)
 | .cell a t :: rest, k =>
  match ti t with
  | some i => p.load i.isAgg i.size (gt tm a) H fun v => AbG tm H rest fun l => k (v :: l)
  | none => none
def Cj (l : List AV) : AV :=
 match l with
 | [x] => x
 | l => .tup l
def B5 (rs : List ResultVar) (k : AV → Ab → Option β) : Ex → Tm → Ab → Option β
 | .normal, tm, H => AbG ti p tm H rs fun l => k (Cj l) H
 | .exit _, _, _ => none
 | .ret, tm, H => AbG ti p tm H rs fun l => k (Cj l) H
def Uj : Nat → Nat → List AV → Tm
 | 0, _, _ => []
 | n + 1, i, [] => (i, .sc undef) :: Uj n (i + 1) []
 | n + 1, i, x :: xs => (i, x) :: Uj n (i + 1) xs
def Bw (n : Nat) (i : E7) (args : List AV) (H : Ab) (k : AV → Ab → Option β) : Option β :=
 Af ti p i.ords i.ntmps n i.body (Uj i.ntmps 0 args) H (B5 ti p i.results k)
end run
noncomputable def Dy (E : O9) : Nat → Cal
 | 0 => fun _ _ _ _ _ => none
 | n + 1 => fun β f args H k =>
  match E.fs f with
  | some i =>
   match Nat.ble args.length i.ntmps with
   | true => Bw E.ti (El E (Dy E n) β) n i args H k
   | false => none
  | none =>
   match E.xk f with
   | some q => pXk q args H k
   | none => none
noncomputable def Cb (E : O9) (n : Nat) (ty : Nat) (f : FuncId) (args : List AV) : Option AV := T2 E (Dy E n) ty f args
end
section
open Go Go.RowKit
inductive Pl where
 | nl
 | pt (b o sz : Nat)
abbrev Ee := Nat → Option Pl
def Gw : Ee := fun _ => none
def PLe (φ φ' : Ee) : Prop := ∀ id p, φ id = some p → φ' id = some p
theorem PLe.refl (φ : Ee) : PLe φ φ := fun _ _ h => h
theorem PLe.trans {a b c : Ee} (h : PLe a b) (k : PLe b c) : PLe a c := fun id p hp => k id p (h id p hp)
theorem PLe.none (φ : Ee) : PLe Gw φ := fun _ _ h => by cases h
def SlR (φ : Ee) (id off n z : Nat) (u : Value) : Prop :=
 (φ id = some .nl ∧ off = 0 ∧ n = 0 ∧ ∃ A, u = .slice A 0 0) ∨
 ∃ b o sz, φ id = some (.pt b o sz) ∧ ((n = 0 ∧ ∃ A, u = .slice A 0 0) ∨ ∃ c, n ≤ c ∧ u = .slice (some ⟨b, o + off, none⟩) n c ∧ o + off + c * z ≤ sz)
def PtR (φ : Ee) (id off : Nat) (u : Value) : Prop := ∃ b o sz, φ id = some (.pt b o sz) ∧ u = .pointer (some ⟨b, o + off, none⟩)
mutual
def VR (w0 : World) (φ : Ee) : AV → Value → Prop
 | .any, _ => True
 | .sc v, u => u = v
 | .nl, u => ∃ A, u = .slice A 0 0
 | .ro n cells, u => ∃ A c, u = .slice A n c ∧ n ≤ c ∧ (cells = [] ∨ ∃ b o, A = some ⟨b, o, none⟩ ∧ b < w0.heap.size ∧ VRs w0 Gw cells (fun j => w0.cell? ⟨b, o + j, none⟩))
 | .sl id off n z, u => SlR φ id off n z u
 | .ptr id off, u => PtR φ id off u
 | .rp cells, u => ∃ b o, u = .pointer (some ⟨b, o, none⟩) ∧ b < w0.heap.size ∧ VRs w0 Gw cells (fun j => w0.cell? ⟨b, o + j, none⟩)
 | .agg cells, u => ∃ xs : List Value, u = .agg xs.toArray ∧ xs.length = cells.length ∧ VRs w0 φ cells (fun j => xs[j]?)
 | .tup cells, u => ∃ xs : List Value, u = .tuple xs.toArray ∧ xs.length = cells.length ∧ VRs w0 φ cells (fun j => xs[j]?)
 | .fn f a c, u => ∃ xs ys : List Value, u = .func (.func f) xs.toArray ys.toArray ∧ xs.length = a.length ∧ ys.length = c.length ∧ VRs w0 φ a (fun j => xs[j]?) ∧ VRs w0 φ c (fun j => ys[j]?)
def VRs (w0 : World) (φ : Ee) : List AV → (Nat → Option Value) → Prop
 | [], _ => True
 | x :: xs, g => (∃ u, g 0 = some u ∧ VR w0 φ x u) ∧ VRs w0 φ xs (fun j => g (j + 1))
end
theorem Df {w0 : World} {φ : Ee} : ∀ {xs : List AV} {g : Nat → Option Value}, VRs w0 φ xs g ↔ ∀ j x, xs[j]? = some x → ∃ u, g j = some u ∧ VR w0 φ x u
 | [], g => by simp [VRs]
 | x :: xs, g => by
  rw [VRs, Df]
  constructor
  ·rintro ⟨h0, h⟩ j y hj
   cases j with
   | zero => simp at hj; subst hj; exact h0
   | succ j => exact h j y (by simpa using hj)
  ·intro h
   exact ⟨h 0 x rfl, fun j y hj => h (j + 1) y (by simpa using hj)⟩
mutual
theorem VR.mono {w0 : World} {φ φ' : Ee} (hp : PLe φ φ') : ∀ {x : AV} {u : Value}, VR w0 φ x u → VR w0 φ' x u
 | .any, _, _ => by rw [VR]; trivial
 | .sc _, _, h => by rw [VR] at *; exact h
 | .nl, _, h => by rw [VR] at *; exact h
 | .ro _ _, _, h => by rw [VR] at *; exact h
 | .sl _ _ _ _, _, h => by
  rw [VR] at *
  rcases h with ⟨h1, h2⟩ | ⟨b, o, sz, h1, h2⟩
  ·exact .inl ⟨hp _ _ h1, h2⟩
  ·exact .inr ⟨b, o, sz, hp _ _ h1, h2⟩
 | .ptr _ _, _, h => by
  rw [VR] at *
  obtain ⟨b, o, sz, h1, h2⟩ := h
  exact ⟨b, o, sz, hp _ _ h1, h2⟩
 | .rp _, _, h => by rw [VR] at *; exact h
 | .agg _, _, h => by
  rw [VR] at *
  obtain ⟨xs, h1, h2, h3⟩ := h
  exact ⟨xs, h1, h2, VRs.mono hp h3⟩
 | .tup _, _, h => by
  rw [VR] at *
  obtain ⟨xs, h1, h2, h3⟩ := h
  exact ⟨xs, h1, h2, VRs.mono hp h3⟩
 | .fn _ _ _, _, h => by
  rw [VR] at *
  obtain ⟨xs, ys, h1, h2, h3, h4, h5⟩ := h
  exact ⟨xs, ys, h1, h2, h3, VRs.mono hp h4, VRs.mono hp h5⟩
theorem VRs.mono {w0 : World} {φ φ' : Ee} (hp : PLe φ φ') : ∀ {xs : List AV} {g : Nat → Option Value}, VRs w0 φ xs g → VRs w0 φ' xs g
 | [], _, _ => by rw [VRs]; trivial
 | _ :: _, _, h => by
  rw [VRs] at *
  obtain ⟨⟨u, h1, h2⟩, h3⟩ := h
  exact ⟨⟨u, h1, VR.mono hp h2⟩, VRs.mono hp h3⟩
end
def Under (w0 w1 : World) : Prop := w0.heap.size ≤ w1.heap.size ∧ ∀ b, b < w0.heap.size → w1.heap[b]? = w0.heap[b]?
theorem Under.cell {w0 w1 : World} (h : Under w0 w1) {b o : Nat} (hb : b < w0.heap.size) : w1.cell? ⟨b, o, none⟩ = w0.cell? ⟨b, o, none⟩ := by
 simp only [World.cell?, h.2 b hb]
mutual
theorem VR.under {w0 w1 : World} (hu : Under w0 w1) : ∀ {x : AV} {u : Value}, VR w0 Gw x u → VR w1 Gw x u
 | .any, _, _ => by rw [VR]; trivial
 | .sc _, _, h => by rw [VR] at *; exact h
 | .nl, _, h => by rw [VR] at *; exact h
 | .ro _ _, _, h => by
  rw [VR] at *
  obtain ⟨A, c, h1, h2, h3⟩ := h
  refine ⟨A, c, h1, h2, ?_⟩
  rcases h3 with h3 | ⟨b, o, h3, h4, h5⟩
  ·exact .inl h3
  ·refine .inr ⟨b, o, h3, zb2 h4 hu.1, ?_⟩
   simp only [hu.cell h4]
   exact VRs.under hu h5
 | .sl _ _ _ _, _, h => by
  rw [VR] at *
  rcases h with ⟨h1, h2⟩ | ⟨b, o, sz, h1, h2⟩ <;> cases h1
 | .ptr _ _, _, h => by
  rw [VR] at *
  obtain ⟨b, o, sz, h1, h2⟩ := h
  cases h1
 | .rp _, _, h => by
  rw [VR] at *
  obtain ⟨b, o, h1, h2, h3⟩ := h
  refine ⟨b, o, h1, zb2 h2 hu.1, ?_⟩
  simp only [hu.cell h2]
  exact VRs.under hu h3
 | .agg _, _, h => by
  rw [VR] at *
  obtain ⟨xs, h1, h2, h3⟩ := h
  exact ⟨xs, h1, h2, VRs.under hu h3⟩
 | .tup _, _, h => by
  rw [VR] at *
  obtain ⟨xs, h1, h2, h3⟩ := h
  exact ⟨xs, h1, h2, VRs.under hu h3⟩
 | .fn _ _ _, _, h => by
  rw [VR] at *
  obtain ⟨xs, ys, h1, h2, h3, h4, h5⟩ := h
  exact ⟨xs, ys, h1, h2, h3, VRs.under hu h4, VRs.under hu h5⟩
theorem VRs.under {w0 w1 : World} (hu : Under w0 w1) : ∀ {xs : List AV} {g : Nat → Option Value}, VRs w0 Gw xs g → VRs w1 Gw xs g
 | [], _, _ => by rw [VRs]; trivial
 | _ :: _, _, h => by
  rw [VRs] at *
  obtain ⟨⟨u, h1, h2⟩, h3⟩ := h
  exact ⟨⟨u, h1, VR.under hu h2⟩, VRs.under hu h3⟩
end
def Ajf (w0 : World) (φ : Ee) (w : World) (k : Iu) (b o sz : Nat) : Prop :=
 w0.heap.size ≤ b ∧ ∃ arr e fr, w.heap[b]? = some (.cells arr e fr) ∧ arr.size = sz ∧ o + k.cells.length ≤ sz ∧ (k.app = true → fr = (0, 0)) ∧ (fr = (0, 0) ∨ o + k.cells.length ≤ fr.1) ∧ VRs w0 φ k.cells (fun j => arr[o + j]?)
structure HR (w0 : World) (φ : Ee) (w : World) (H : Ab) : Prop where
 bel : Below w0.heap.size w0 w
 blk : ∀ id k b o sz, H[id]? = some k → k.live = true → φ id = some (.pt b o sz) → Ajf w0 φ w k b o sz
 nil : ∀ id k, H[id]? = some k → k.live = true → φ id = some .nl → k.cells = []
 inj : ∀ id id' k k' b o sz o' sz', H[id]? = some k → H[id']? = some k' → k.live = true → k'.live = true → φ id = some (.pt b o sz) → φ id' = some (.pt b o' sz') → id = id'
 dom : ∀ id p, φ id = some p → id < H.length
structure Fr (φ : Ee) (H : Ab) (w w' : World) : Prop where
 os : w'.os = w.os
 tape : w'.tape = w.tape
 output : w'.output = w.output
 size : w.heap.size ≤ w'.heap.size
 block : ∀ b, b < w.heap.size → (∀ id k o sz, H[id]? = some k → k.live = true → φ id ≠ some (.pt b o sz)) → w'.heap[b]? = w.heap[b]?
theorem Fr.refl (φ : Ee) (H : Ab) (w : World) : Fr φ H w w := ⟨rfl, rfl, rfl, zao _, fun _ _ _ => rfl⟩
theorem Fr.of_below {φ : Ee} {H : Ab} {w w' : World} (h : Below w.heap.size w w') : Fr φ H w w' := ⟨h.os, h.tape, h.output, h.size, fun b hb _ => h.block b hb⟩
def TR (w0 : World) (φ : Ee) (tm : Tm) (a : Act) : Prop := ∀ i, VR w0 φ (gt tm i) (a.tmps.getD i undef)
theorem HR.under {w0 : World} {φ : Ee} {w : World} {H : Ab} (h : HR w0 φ w H) : Under w0 w := ⟨h.bel.size, h.bel.block⟩
theorem Zo (w0 : World) (φ : Ee) (v : Value) : VR w0 φ (Tr v) v := by
 unfold Tr
 split
 ·rw [VR]; exact ⟨_, rfl⟩
 ·rw [VR]
theorem Vn (w0 : World) (φ : Ee) (xs : List Value) : VRs w0 φ (xs.map Tr) (fun j => xs[j]?) := by
 rw [Df]
 intro j x hj
 rw [zaY] at hj
 obtain ⟨v, hv, rfl⟩ := zaM.1 hj
 exact ⟨v, hv, Zo w0 φ v⟩
theorem AcO (w0 : World) (φ : Ee) (v : Value) : VR w0 φ (ofValue v) v := by
 unfold ofValue
 split
 ·rename_i cs
  rw [VR]
  exact ⟨cs.toList, by simp, by simp, Vn w0 φ cs.toList⟩
 ·exact Zo w0 φ v
theorem Dz {w0 : World} {φ : Ee} {tm : Tm} {a : Act} (h : TR w0 φ tm a) (x : Operand) : VR w0 φ (ev tm x) (a.eval x) := by
 cases x with
 | tmp t => exact h t
 | const v => exact AcO w0 φ v
 | global g => simp only [ev]; rw [VR]; trivial
 | func f =>
  simp only [ev, Act.eval]
  rw [VR]
  exact ⟨[], [], rfl, rfl, rfl, by rw [VRs]; trivial, by rw [VRs]; trivial⟩
theorem Aau {w0 : World} {φ : Ee} {x : AV} {u : Value} (h : VR w0 φ x u) (hl : A2 x = true) : Mz u = true := by
 cases x with
 | any => cases hl
 | tup vs => cases hl
 | agg ds => cases hl
 | sc v => rw [VR] at h; subst h; exact hl
 | nl => rw [VR] at h; obtain ⟨A, rfl⟩ := h; rfl
 | ro n c => rw [VR] at h; obtain ⟨A, c, rfl, _⟩ := h; rfl
 | sl id off n z => rw [VR] at h; rcases h with ⟨_, _, _, A, rfl⟩ | ⟨b, o, sz, _, ⟨_, A, rfl⟩ | ⟨c, _, rfl, _⟩⟩ <;> rfl
 | ptr id off => rw [VR] at h; obtain ⟨b, o, sz, _, rfl⟩ := h; rfl
 | rp c => rw [VR] at h; obtain ⟨b, o, rfl, _⟩ := h; rfl
 | fn f a c => rw [VR] at h; obtain ⟨xs, ys, rfl, _⟩ := h; rfl
theorem R4 {w0 : World} {φ : Ee} {x : AV} {u : Value} {cs : List AV} (h : VR w0 φ x u) (hc : Ev x = some cs) :
  u.cells.toList.length = cs.length ∧ VRs w0 φ cs (fun j => u.cells.toList[j]?) ∧ ∀ v ∈ u.cells.toList, Mz v = true := by
 by_cases hl : A2 x = true
 ·have e : cs = [x] := by
   cases x <;> simp_all [Ev, A2]
  subst e
  have hv := Aau h hl
  have e : u.cells = #[u] := by cases u <;> first | rfl | cases hv
  rw [e]
  refine ⟨rfl, ?_, fun v hm => by simp at hm; subst hm; exact hv⟩
  rw [VRs, VRs]
  exact ⟨⟨u, rfl, h⟩, trivial⟩
 ·cases x with
  | agg ds =>
   simp only [Ev] at hc
   split at hc
   ·rename_i hall
    simp only [Option.some.injEq] at hc
    subst hc
    rw [VR] at h
    obtain ⟨xs, rfl, h2, h3⟩ := h
    refine ⟨by simpa [Value.cells] using h2, by simpa [Value.cells] using h3, fun v hv => ?_⟩
    simp only [Value.cells, List.mem_iff_getElem?] at hv
    obtain ⟨j, hj⟩ := hv
    rw [Df] at h3
    have hlt : j < ds.length := by rw [← h2]; exact (zac.1 hj).1
    obtain ⟨u, g1, g2⟩ := h3 j _ (zaS hlt)
    rw [hj] at g1
    cases g1
    exact Aau g2 (za9.1 hall _ (List.getElem_mem hlt))
   ·cases hc
  | _ => simp_all [Ev, A2]
end
section
open Go Go.RowKit
variable {P : Program}
def Gg (i : TI) : TypeDesc → Bool
 | .struct fs => i.isAgg && !i.isB && !i.sl && (i.fields == fs.toList.map fun f => (f.offset, f.type)) && i.ik.isNone && !i.isStr
 | .slice e => !i.isAgg && !i.isB && i.sl && i.elem == e && i.ik.isNone && !i.isStr
 | .int k => !i.isAgg && !i.isB && !i.sl && i.ik == some k && !i.isStr
 | .string => !i.isAgg && !i.isB && !i.sl && i.ik.isNone && i.isStr
 | .bool => !i.isAgg && i.isB && !i.sl && i.ik.isNone && !i.isStr
 | .pointer _ => !i.isAgg && !i.isB && !i.sl && i.ik.isNone && !i.isStr
 | .func _ _ _ => !i.isAgg && !i.isB && !i.sl && i.ik.isNone && !i.isStr
 | _ => false
structure TOk (P : Program) (t : TypeId) (i : TI) : Prop where
 info : ∃ inf, P.info? t = some inf ∧ inf.size = i.size ∧ inf.bytes = i.bytes ∧ ∃ z, inf.zero = some z ∧ z.cells.toList = i.zero
 desc : ∃ d, P.underlying t = some d ∧ Gg i d = true
 zsz : i.zero.length = i.size
 spos : 0 < i.size
 bpos : 0 < i.bytes
 zlf : ∀ v ∈ i.zero, Mz v = true
 flds : ∀ q ∈ i.fields, ∃ inf, P.info? q.2 = some inf
 eqf : i.eqs = true → i.isAgg = true ∧ P.stoodInHeld t = false ∧ P.eqGuardType P.depth t = false ∧ ∀ f ∈ (P.fieldsOf t).toList, f.name ≠ "_"
def J8 (P : Program) (ti : Nat → Option TI) : Prop := ∀ t i, ti t = some i → TOk P t i
theorem TOk.rSize {t : TypeId} {i : TI} (h : TOk P t i) (w : World) : (Go.sizeOf t).run P w = .ok i.size w := by
 obtain ⟨inf, h1, h2, _⟩ := h.info
 simp [Go.sizeOf, typeInfo, h1, h2]
theorem TOk.rAgg {t : TypeId} {i : TI} (h : TOk P t i) (w : World) : (Go.isAgg t).run P w = .ok i.isAgg w := by
 obtain ⟨d, h1, h2⟩ := h.desc
 have hu := fun w => run_underlying h1 w
 have key : (Go.isAgg t).run P w = .ok (match d with | .struct _ => true | .array _ _ => true | _ => false) w := by
  simp only [Go.isAgg, Sem.run_bind, hu, Result.andThen_ok]
  cases d <;> rfl
 rw [key]
 cases d <;> simp [Gg] at h2 ⊢ <;> simp [h2]
theorem Xk {cs : List AV} {c : AV} (h : one cs = some c) : cs = [c] := by
 match cs, h with
 | [x], h => simpa [one] using h
theorem Jp (b o j : Nat) : (⟨b, o, none⟩ : Addr).add j = ⟨b, o + j, none⟩ := by unfold Addr.add; split <;> simp_all
theorem K1 {t : TypeId} {i : TI} (ht : TOk P t i) {w0 : World} {φ : Ee} {w : World} {b o : Nat} {cs : List AV} (hl : cs.length = i.size)
  (hc : VRs w0 φ cs (fun j => w.cell? ⟨b, o + j, none⟩)) {v : AV} (hv : (i.isAgg = true ∧ v = .agg cs) ∨ (i.isAgg = false ∧ cs = [v])) :
  ∃ u, (∀ w' : World, (∀ (j : Nat) (u : Value), w.cell? ⟨b, o + j, none⟩ = some u → w'.cell? ⟨b, o + j, none⟩ = some u) → (Instr.loadAt t (.pointer (some ⟨b, o, none⟩))).run P w' = .ok u w') ∧ VR w0 φ v u := by
 rw [Df] at hc
 rcases hv with ⟨ha, rfl⟩ | ⟨ha, rfl⟩
 ·obtain ⟨us, hus⟩ : ∃ us : List Value, us.length = cs.length ∧ ∀ j x, cs[j]? = some x → ∃ u, us[j]? = some u ∧ w.cell? ⟨b, o + j, none⟩ = some u ∧ VR w0 φ x u := by
   refine ⟨(List.range cs.length).map fun j => (w.cell? ⟨b, o + j, none⟩).getD undef, by simp, fun j x hj => ?_⟩
   obtain ⟨u, h1, h2⟩ := hc j x hj
   have hlt : j < cs.length := (zac.1 hj).1
   exact ⟨u, by simp [hlt, h1], h1, h2⟩
  have hrun := fun (w' : World) (hw : ∀ (j : Nat) (u : Value), w.cell? ⟨b, o + j, none⟩ = some u → w'.cell? ⟨b, o + j, none⟩ = some u) => run_loadCells_list (P := P) w' ⟨b, o, none⟩ us (fun j v hj => by
   have hlt : j < cs.length := by rw [← hus.1]; exact (zac.1 hj).1
   obtain ⟨u, h1, h2, _⟩ := hus.2 j _ (zaS hlt)
   rw [hj] at h1
   cases h1
   rw [Jp]
   exact hw j _ h2)
  rw [hus.1, hl] at hrun
  refine ⟨.agg us.toArray, ?_, ?_⟩
  ·intro w' hw
   simp only [Instr.loadAt, Instr.sureAddr, Sem.run_bind, Sem.run_pure, Result.andThen_ok, loadVar, ht.rAgg, ha, if_true, ht.rSize, hrun w' hw]
  ·rw [VR]
   refine ⟨us, rfl, hus.1, ?_⟩
   rw [Df]
   exact fun j x hj => let ⟨u, h1, _, h3⟩ := hus.2 j x hj; ⟨u, h1, h3⟩
 ·obtain ⟨u, h1, h2⟩ := hc 0 v rfl
  refine ⟨u, ?_, h2⟩
  intro w' hw
  have h1 := hw 0 u h1
  simp only [zaR] at h1
  simp only [Instr.loadAt, Instr.sureAddr, Sem.run_bind, Sem.run_pure, Result.andThen_ok, loadVar, ht.rAgg, ha, zaa, if_false, run_load, h1]
theorem Aef {w w' : World} (hw : Below w.heap.size w w') {b o : Nat} {u : Value} (hu : w.cell? ⟨b, o, none⟩ = some u) : w'.cell? ⟨b, o, none⟩ = some u := by
 have hb : b < w.heap.size := by
  rcases Nat.lt_or_ge b w.heap.size with h | h
  ·exact h
  ·simp [World.cell?, zbz h] at hu
 rw [hw.cell (p := ⟨b, o, none⟩) hb]
 exact hu
theorem Uq {t : TypeId} {i : TI} (ht : TOk P t i) {w0 : World} {φ : Ee} {w : World} {b o : Nat} {cs : List AV} (hl : cs.length = i.size)
  (hc : VRs w0 φ cs (fun j => w.cell? ⟨b, o + j, none⟩)) {v : AV} (hv : (i.isAgg = true ∧ v = .agg cs) ∨ (i.isAgg = false ∧ cs = [v])) :
  ∃ u, (∀ w', Below w.heap.size w w' → (Instr.loadAt t (.pointer (some ⟨b, o, none⟩))).run P w' = .ok u w') ∧ VR w0 φ v u := by
 obtain ⟨u, h1, h2⟩ := K1 (P := P) ht hl hc hv
 exact ⟨u, fun w' hw => h1 w' fun j u hu => Aef hw hu, h2⟩
theorem Ny {w0 : World} {φ : Ee} {w : World} {H : Ab} (hr : HR w0 φ w H) {id off n : Nat} {cs : List AV} (h : As H id off n = some cs) {b o sz : Nat} (hp : φ id = some (.pt b o sz)) :
  cs.length = n ∧ VRs w0 φ cs (fun j => w.cell? ⟨b, o + off + j, none⟩) := by
 unfold As at h
 split at h
 ·rename_i k hk
  split at h
  ·rename_i hlv
   split at h
   ·rename_i hle
    simp only [Option.some.injEq] at h
    subst h
    refine ⟨by simp; omega, ?_⟩
    obtain ⟨hb, arr, e, fr, h1, h2, h3, h4, h5, h6⟩ := hr.blk id k b o sz hk hlv hp
    rw [Df] at h6 ⊢
    intro j x hj
    rw [List.getElem?_take] at hj
    split at hj
    ·rename_i hjn
     rw [zba] at hj
     obtain ⟨u, g1, g2⟩ := h6 (off + j) x hj
     refine ⟨u, ?_, g2⟩
     simp only [World.cell?, h1]
     rw [show o + off + j = o + (off + j) by omega]
     simpa using g1
    ·cases hj
   ·cases h
  ·cases h
 ·cases h
theorem Vq {w0 w : World} (h : Below w0.heap.size w0 w) {b o : Nat} (hb : b < w0.heap.size) : w.cell? ⟨b, o, none⟩ = w0.cell? ⟨b, o, none⟩ :=
 h.cell (p := ⟨b, o, none⟩) hb
theorem Rz {w0 : World} {φ : Ee} {xs : List AV} {g : Nat → Option Value} (h : VRs w0 φ xs g) (n : Nat) : VRs w0 φ (xs.take n) g := by
 rw [Df] at *
 intro j x hj
 rw [List.getElem?_take] at hj
 split at hj
 ·exact h j x hj
 ·cases hj
theorem Pf {w0 : World} {φ : Ee} {xs : List AV} {g : Nat → Option Value} (h : VRs w0 φ xs g) (n : Nat) : VRs w0 φ (xs.drop n) (fun j => g (n + j)) := by
 rw [Df] at *
 intro j x hj
 rw [zba] at hj
 exact h (n + j) x hj
variable {β : Type}
theorem W9 {t : TypeId} {i : TI} (ht : TOk P t i) {w0 : World} {φ : Ee} {w : World} {H : Ab} (hr : HR w0 φ w H) {x : AV} {u : Value} (hx : VR w0 φ x u) {k : AV → Option β} {r : β}
  (h : Bx i.isAgg i.size x H k = some r) : ∃ v uv, k v = some r ∧ VR w0 φ v uv ∧ ∀ w', Below w.heap.size w w' → (Instr.loadAt t u).run P w' = .ok uv w' := by
 have fin : ∀ (b o : Nat) (cs : List AV), cs.length = i.size → VRs w0 φ cs (fun j => w.cell? ⟨b, o + j, none⟩) → (if i.isAgg then k (.agg cs) else (one cs).bind k) = some r →
   ∃ v uv, k v = some r ∧ VR w0 φ v uv ∧ ∀ w', Below w.heap.size w w' → (Instr.loadAt t (.pointer (some ⟨b, o, none⟩))).run P w' = .ok uv w' := by
  intro b o cs hl hc hk
  cases ha : i.isAgg with
  | true =>
   rw [ha, if_pos rfl] at hk
   obtain ⟨uv, h1, h2⟩ := Uq ht hl hc (v := .agg cs) (.inl ⟨ha, rfl⟩)
   exact ⟨_, uv, hk, h2, h1⟩
  | false =>
   rw [ha, if_neg (by simp)] at hk
   obtain ⟨v, hv, hk⟩ := zab.1 hk
   obtain ⟨uv, h1, h2⟩ := Uq ht hl hc (v := v) (.inr ⟨ha, Xk hv⟩)
   exact ⟨_, uv, hk, h2, h1⟩
 cases x <;> simp only [Bx] at h <;> try cases h
 ·rename_i id off
  obtain ⟨cs, hcs, hk⟩ := zab.1 h
  rw [VR] at hx
  obtain ⟨b, o, sz, hp, rfl⟩ := hx
  obtain ⟨hl, hc⟩ := Ny hr hcs hp
  exact fin b (o + off) cs hl hc hk
 ·rename_i cells
  split at h
  ·rename_i hle
   rw [VR] at hx
   obtain ⟨b, o, rfl, hb, hc⟩ := hx
   refine fin b o (cells.take i.size) (by simp; omega) ?_ h
   have := Rz (VRs.mono (PLe.none φ) hc) i.size
   simpa only [Vq hr.bel hb] using this
  ·cases h
theorem AcK {t : TypeId} {i : TI} (ht : TOk P t i) {w0 : World} {φ : Ee} {w : World} {H : Ab} (hr : HR w0 φ w H) {id off : Nat} {u : Value} (hx : VR w0 φ (.ptr id off) u) {k : AV → Option β} {r : β}
  (h : Bx i.isAgg i.size (.ptr id off) H k = some r) : ∃ v uv b o sz, k v = some r ∧ VR w0 φ v uv ∧ φ id = some (.pt b o sz) ∧ b < w.heap.size ∧ ∀ w' : World, w'.heap[b]? = w.heap[b]? → (Instr.loadAt t u).run P w' = .ok uv w' := by
 obtain ⟨cs, hcs, hk⟩ := zab.1 h
 rw [VR] at hx
 obtain ⟨b, o, sz, hp, rfl⟩ := hx
 obtain ⟨hl, hc⟩ := Ny hr hcs hp
 have hb : b < w.heap.size := by
  unfold As at hcs
  split at hcs
  ·rename_i kk hkk
   split at hcs
   ·rename_i hlv
    obtain ⟨_, arr, e, fr, h1, _⟩ := hr.blk id kk b o sz hkk hlv hp
    exact (zaB.1 h1).1
   ·cases hcs
  ·cases hcs
 have old : ∀ w' : World, w'.heap[b]? = w.heap[b]? → ∀ (j : Nat) (u : Value), w.cell? ⟨b, o + off + j, none⟩ = some u → w'.cell? ⟨b, o + off + j, none⟩ = some u := by
  intro w' hw j u hu
  simpa only [World.cell?, hw] using hu
 cases ha : i.isAgg with
 | true =>
  rw [ha, if_pos rfl] at hk
  obtain ⟨uv, h1, h2⟩ := K1 (P := P) ht hl hc (v := .agg cs) (.inl ⟨ha, rfl⟩)
  exact ⟨_, uv, b, o, sz, hk, h2, hp, hb, fun w' hw => h1 w' (old w' hw)⟩
 | false =>
  rw [ha, if_neg (by simp)] at hk
  obtain ⟨v, hv, hk⟩ := zab.1 hk
  obtain ⟨uv, h1, h2⟩ := K1 (P := P) ht hl hc (v := v) (.inr ⟨ha, Xk hv⟩)
  exact ⟨_, uv, b, o, sz, hk, h2, hp, hb, fun w' hw => h1 w' (old w' hw)⟩
theorem Sn {v : Value} (h : Mz v = true) : v.oneCell' = true := by cases v <;> first | rfl | cases h
theorem Ia (b : Nat) : ∀ (vs : List Value) (o : Nat) (w : World) (c : Nat), c ≠ b → (w.setCells b o vs).heap[c]? = w.heap[c]?
 | [], _, _, _, _ => rfl
 | v :: r, o, w, c, h => by
  rw [World.setCells, Ia b r _ _ c h]
  simp only [World.setCell, Array.getElem?_modify]
  rw [if_neg (by omega)]
theorem Kk (b : Nat) : ∀ (vs : List Value) (o : Nat) (w : World), (w.setCells b o vs).os = w.os ∧ (w.setCells b o vs).tape = w.tape ∧ (w.setCells b o vs).output = w.output ∧ (w.setCells b o vs).heap.size = w.heap.size
 | [], _, _ => ⟨rfl, rfl, rfl, rfl⟩
 | v :: r, o, w => by
  obtain ⟨h1, h2, h3, h4⟩ := Kk b r (o + 1) (w.setCell ⟨b, o, none⟩ v)
  exact ⟨h1, h2, h3, h4.trans (by simp [World.setCell])⟩
theorem Nd (b : Nat) (e : TypeId) (fr : Nat × Nat) : ∀ (vs : List Value) (o : Nat) (w : World) (arr : Array Value), w.heap[b]? = some (.cells arr e fr) → o + vs.length ≤ arr.size →
  ∃ arr', (w.setCells b o vs).heap[b]? = some (.cells arr' e fr) ∧ arr'.size = arr.size ∧ ∀ j, arr'[j]? = if o ≤ j ∧ j < o + vs.length then vs[j - o]? else arr[j]?
 | [], o, w, arr, h, _ => ⟨arr, h, rfl, fun j => by rw [if_neg (by simp)]⟩
 | v :: r, o, w, arr, h, hl => by
  simp only [zan] at hl
  have h1 : (w.setCell ⟨b, o, none⟩ v).heap[b]? = some (.cells (arr.setIfInBounds o v) e fr) := by
   simp only [World.setCell, Array.getElem?_modify, if_true, h, Option.map_some]
   simp
  obtain ⟨arr', g1, g2, g3⟩ := Nd b e fr r (o + 1) _ _ h1 (by simp; omega)
  refine ⟨arr', g1, by simpa using g2, fun j => ?_⟩
  rw [g3 j, Array.getElem?_setIfInBounds]
  by_cases hj : o + 1 ≤ j ∧ j < o + 1 + r.length
  ·rw [if_pos hj, if_pos (by simp; omega), show j - o = (j - (o + 1)) + 1 by omega]
   rfl
  ·rw [if_neg hj]
   by_cases hoj : o = j
   ·subst hoj
    rw [if_pos rfl, if_pos (by omega), if_pos (by simp), zbe]
    rfl
   ·rw [if_neg hoj, if_neg (by simp; omega)]
theorem Ya {cs vs : List AV} {off : Nat} (h : off + vs.length ≤ cs.length) : (Fh cs off vs).length = cs.length := by
 unfold Fh
 simp
 omega
theorem X9 {cs vs : List AV} {off : Nat} (h : off + vs.length ≤ cs.length) (j : Nat) : (Fh cs off vs)[j]? = if off ≤ j ∧ j < off + vs.length then vs[j - off]? else cs[j]? := by
 unfold Fh
 by_cases h1 : j < off
 ·rw [if_neg (by omega), zaf, zal (by simp; omega), List.getElem?_take, if_pos h1]
 ·by_cases h2 : j < off + vs.length
  ·rw [if_pos (by omega), zal (by simp; omega), zaj (by simp; omega)]
   congr 1
   simp
   omega
  ·rw [if_neg (by omega), zaj (by simp; omega), zba]
   congr 1
   simp
   omega
theorem Mp {w0 : World} {φ : Ee} {w w' : World} {H : Ab} (hr : HR w0 φ w H) (hf : Fr φ H w w') : Below w0.heap.size w0 w' := by
 refine hr.bel.trans ⟨hf.os, hf.tape, hf.output, hf.size, fun b hb => hf.block b (zb2 hb hr.bel.size) ?_⟩
 intro id k o sz hk hlv hp
 have := (hr.blk id k b o sz hk hlv hp).1
 omega
theorem HR.later {w0 : World} {φ : Ee} {w w' : World} {H : Ab} (hr : HR w0 φ w H) (hw : Below w.heap.size w w') : HR w0 φ w' H where
 bel := Mp hr (Fr.of_below hw)
 blk := by
  intro id k b o sz hk hl hp
  obtain ⟨h1, arr, e, fr, h2, h3⟩ := hr.blk id k b o sz hk hl hp
  exact ⟨h1, arr, e, fr, by rw [hw.block b (zaB.1 h2).1]; exact h2, h3⟩
 nil := hr.nil
 inj := hr.inj
 dom := hr.dom
theorem HR.write {w0 : World} {φ : Ee} {w : World} {H : Ab} (hr : HR w0 φ w H) {id : Nat} {k : Iu} {b o sz : Nat} (hk : H[id]? = some k) (hlv : k.live = true) (hp : φ id = some (.pt b o sz))
  {off : Nat} {cs : List AV} {vs : List Value} (hle : off + cs.length ≤ k.cells.length) (hl : vs.length = cs.length) (hc : VRs w0 φ cs (fun j => vs[j]?)) :
  HR w0 φ (w.setCells b (o + off) vs) (H.set id { k with cells := Fh k.cells off cs }) ∧ Fr φ H w (w.setCells b (o + off) vs) := by
 obtain ⟨hb, arr, e, fr, h1, h2, h3, h4, h5, h6⟩ := hr.blk id k b o sz hk hlv hp
 obtain ⟨s1, s2, s3, s4⟩ := Kk b vs (o + off) w
 obtain ⟨arr', g1, g2, g3⟩ := Nd b e fr vs (o + off) w arr h1 (by omega)
 have hid : id < H.length := (zac.1 hk).1
 have hfr : Fr φ H w (w.setCells b (o + off) vs) := ⟨s1, s2, s3, by omega, fun c _ hc => Ia b vs _ w c (fun he => hc id k o sz hk hlv (by rw [he]; exact hp))⟩
 have hlen := Ya (cs := k.cells) (vs := cs) (off := off) hle
 have back : ∀ (i : Nat) (k' : Iu), (H.set id { k with cells := Fh k.cells off cs })[i]? = some k' → k'.live = true → ∃ k0 : Iu, H[i]? = some k0 ∧ k0.live = true := by
  intro i k' hi hlv'
  rw [List.getElem?_set] at hi
  split at hi
  ·rename_i he
   subst he
   exact ⟨k, hk, hlv⟩
  ·exact ⟨k', hi, hlv'⟩
 refine ⟨⟨Mp hr hfr, ?_, ?_, ?_, ?_⟩, hfr⟩
 ·intro i k' b' o' sz' hi hlv' hp'
  rw [List.getElem?_set] at hi
  split at hi
  ·rename_i he
   subst he
   simp only [Option.some.injEq] at hi
   subst hi
   rw [hp] at hp'
   cases hp'
   refine ⟨hb, arr', e, fr, g1, g2.trans h2, by simpa [hlen] using h3, h4, by simpa [hlen] using h5, ?_⟩
   rw [Df] at h6 hc ⊢
   intro j x hj
   rw [X9 hle] at hj
   rw [g3 (o + j)]
   split at hj
   ·rename_i hj1
    rw [if_pos (by omega), show o + j - (o + off) = j - off by omega]
    exact hc _ x hj
   ·rename_i hj1
    rw [if_neg (by omega)]
    exact h6 j x hj
  ·rename_i he
   obtain ⟨hb', arr2, e2, fr2, q1, q2⟩ := hr.blk i k' b' o' sz' hi hlv' hp'
   refine ⟨hb', arr2, e2, fr2, ?_, q2⟩
   rw [Ia b vs _ w b' (fun hbb => he (hr.inj id i k k' b o sz o' sz' hk hi hlv hlv' hp (by rw [← hbb]; exact hp')))]
   exact q1
 ·intro i k' hi hlv' hp'
  rw [List.getElem?_set] at hi
  split at hi
  ·rename_i he
   subst he
   rw [hp] at hp'
   cases hp'
  ·exact hr.nil i k' hi hlv' hp'
 ·intro i i' k1 k2 b1 o1 sz1 o2 sz2 hi hi' hl1 hl2 hp1 hp2
  obtain ⟨k1', e1, l1⟩ := back i k1 hi hl1
  obtain ⟨k2', e2, l2⟩ := back i' k2 hi' hl2
  exact hr.inj i i' k1' k2' b1 o1 sz1 o2 sz2 e1 e2 l1 l2 hp1 hp2
 ·intro i p hp'
  simpa using hr.dom i p hp'
def Vk (φ : Ee) (id : Nat) (p : Pl) : Ee := fun i => if i = id then some p else φ i
theorem Jf {φ : Ee} {id : Nat} {p : Pl} (h : φ id = none) : PLe φ (Vk φ id p) := by
 intro i q hq
 unfold Vk
 split
 ·rename_i he
  subst he
  rw [h] at hq
  cases hq
 ·exact hq
theorem Fj (φ : Ee) (id : Nat) (p : Pl) : Vk φ id p id = some p := by simp [Vk]
theorem HR.fresh {w0 : World} {φ : Ee} {w : World} {H : Ab} (hr : HR w0 φ w H) : φ H.length = none := by
 cases h : φ H.length with
 | none => rfl
 | some p => have := hr.dom _ _ h; omega
theorem HR.alloc {w0 : World} {φ : Ee} {w w' : World} {H : Ab} (hr : HR w0 φ w H) (hw : Below w.heap.size w w') {b o : Nat} {k : Iu} {arr : Array Value} {e : TypeId} {fr : Nat × Nat}
  (hbn : w.heap.size ≤ b) (hb : w'.heap[b]? = some (.cells arr e fr)) (hl : o + k.cells.length ≤ arr.size) (ha : k.app = true → fr = (0, 0)) (hf : fr = (0, 0) ∨ o + k.cells.length ≤ fr.1)
  (hc : VRs w0 φ k.cells (fun j => arr[o + j]?)) : HR w0 (Vk φ H.length (.pt b o arr.size)) w' (H ++ [k]) ∧ Fr φ H w w' := by
 have hle := Jf (p := Pl.pt b o arr.size) hr.fresh
 have hfr : Fr φ H w w' := Fr.of_below hw
 have hlt : ∀ (i : Nat) (k' : Iu) (bb oo ss : Nat), H[i]? = some k' → k'.live = true → φ i = some (.pt bb oo ss) → bb < w.heap.size := by
  intro i k' bb oo ss hi hlv hp
  obtain ⟨_, arr2, _, _, q1, _⟩ := hr.blk i k' bb oo ss hi hlv hp
  exact (zaB.1 q1).1
 have old : ∀ (i : Nat) (k' : Iu), (H ++ [k])[i]? = some k' → i ≠ H.length → H[i]? = some k' := by
  intro i k' hi hne
  have : i < H.length := by
   have := (zac.1 hi).1
   simp at this
   omega
  rwa [zal this] at hi
 have oldp : ∀ (i : Nat) (p : Pl), Vk φ H.length (.pt b o arr.size) i = some p → i ≠ H.length → φ i = some p := by
  intro i p hp hne
  unfold Vk at hp
  rwa [if_neg hne] at hp
 refine ⟨⟨Mp hr hfr, ?_, ?_, ?_, ?_⟩, hfr⟩
 ·intro i k' b' o' sz' hi hlv' hp'
  by_cases he : i = H.length
  ·subst he
   rw [Fj] at hp'
   cases hp'
   simp at hi
   subst hi
   exact ⟨zaA hr.bel.size hbn, arr, e, fr, hb, rfl, hl, ha, hf, VRs.mono hle hc⟩
  ·obtain ⟨h1, arr2, e2, fr2, q1, q2, q3, q4, q5, q6⟩ := hr.blk i k' b' o' sz' (old i k' hi he) hlv' (oldp i _ hp' he)
   exact ⟨h1, arr2, e2, fr2, by rw [hw.block b' (hlt i k' b' o' sz' (old i k' hi he) hlv' (oldp i _ hp' he))]; exact q1, q2, q3, q4, q5, VRs.mono hle q6⟩
 ·intro i k' hi hlv' hp'
  by_cases he : i = H.length
  ·subst he
   rw [Fj] at hp'
   cases hp'
  ·exact hr.nil i k' (old i k' hi he) hlv' (oldp i _ hp' he)
 ·intro i i' k1 k2 b1 o1 sz1 o2 sz2 hi hi' hl1 hl2 hp1 hp2
  by_cases he : i = H.length
  ·by_cases he' : i' = H.length
   ·omega
   ·subst he
    rw [Fj] at hp1
    cases hp1
    have := hlt i' k2 _ o2 sz2 (old i' k2 hi' he') hl2 (oldp i' _ hp2 he')
    omega
  ·by_cases he' : i' = H.length
   ·subst he'
    rw [Fj] at hp2
    cases hp2
    have := hlt i k1 _ o1 sz1 (old i k1 hi he) hl1 (oldp i _ hp1 he)
    omega
   ·exact hr.inj i i' k1 k2 b1 o1 sz1 o2 sz2 (old i k1 hi he) (old i' k2 hi' he') hl1 hl2 (oldp i _ hp1 he) (oldp i' _ hp2 he')
 ·intro i p hp'
  by_cases he : i = H.length
  ·subst he; simp
  ·have := hr.dom i p (oldp i _ hp' he); simp; omega
theorem AbN {t : TypeId} {i : TI} (ht : TOk P t i) {w0 : World} {φ : Ee} {w : World} {H : Ab} (hr : HR w0 φ w H) {x y : AV} {u v : Value} (hx : VR w0 φ x u) (hy : VR w0 φ y v) {k : Ab → Option β} {r : β}
  (h : Ej i.size x y H k = some r) : ∃ H' w', k H' = some r ∧ HR w0 φ w' H' ∧ Fr φ H w w' ∧ (Instr.storeAt t u v).run P w = .ok () w' := by
 cases x <;> simp only [Ej] at h <;> try cases h
 rename_i id off
 rw [VR] at hx
 obtain ⟨b, o, sz, hp, rfl⟩ := hx
 split at h
 ·rename_i kk hk
  obtain ⟨cs, hcs, h⟩ := zab.1 h
  split at h
  ·rename_i hlv
   split at h
   ·rename_i hn
    split at h
    ·rename_i hle
     obtain ⟨hl, hc, hlf⟩ := R4 hy hcs
     obtain ⟨h1, h2⟩ := hr.write hk hlv hp (off := off) (cs := cs) (vs := v.cells.toList) (by omega) hl hc
     refine ⟨_, _, h, h1, h2, ?_⟩
     obtain ⟨hb, arr, e, fr, q1, q2, q3, q4, q5, q6⟩ := hr.blk id kk b o sz hk hlv hp
     have hsz : v.cells.size = i.size := by rw [← hn, ← hl]; simp
     have hst := run_storeCells_cells (P := P) b (o + off) v.cells.toList 0 w
      (fun j hj => by
       have hlt : o + off + j < arr.size := by omega
       simp [World.cell?, q1, hlt])
      (fun j hj => by
       simp only [World.frozen?, q1]
       rcases q5 with q5 | q5
       ·rw [q5]; simp
       ·obtain ⟨f1, f2⟩ := fr
        simp at q5 ⊢
        intro hh
        omega)
      (fun x hx => Sn (hlf x hx))
     simp only [zaR] at hst
     simp only [Instr.storeAt, Instr.sureAddr, Sem.run_bind, Sem.run_pure, Result.andThen_ok, storeVar, ht.rSize, hsz, ne_eq, not_true_eq_false, if_false]
     exact hst
    ·cases h
   ·cases h
  ·cases h
 ·cases h
theorem AcZ {t : TypeId} {i : TI} (ht : TOk P t i) {w0 : World} {φ : Ee} {w : World} {H : Ab} (hr : HR w0 φ w H) {id off : Nat} {y : AV} {u v : Value} (hx : VR w0 φ (.ptr id off) u) (hy : VR w0 φ y v) {k : Ab → Option β} {r : β}
  (h : Ej i.size (.ptr id off) y H k = some r) : ∃ H' w' b o sz, k H' = some r ∧ HR w0 φ w' H' ∧ φ id = some (.pt b o sz) ∧ w'.heap.size = w.heap.size ∧ (∀ c, c ≠ b → w'.heap[c]? = w.heap[c]?) ∧ (Instr.storeAt t u v).run P w = .ok () w' := by
 simp only [Ej] at h
 rw [VR] at hx
 obtain ⟨b, o, sz, hp, rfl⟩ := hx
 split at h
 ·rename_i kk hk
  obtain ⟨cs, hcs, h⟩ := zab.1 h
  split at h
  ·rename_i hlv
   split at h
   ·rename_i hn
    split at h
    ·rename_i hle
     obtain ⟨hl, hc, hlf⟩ := R4 hy hcs
     obtain ⟨h1, h2⟩ := hr.write hk hlv hp (off := off) (cs := cs) (vs := v.cells.toList) (by omega) hl hc
     refine ⟨_, _, b, o, sz, h, h1, hp, (Kk b _ _ w).2.2.2, fun c hc => Ia b _ _ w c hc, ?_⟩
     obtain ⟨hb, arr, e, fr, q1, q2, q3, q4, q5, q6⟩ := hr.blk id kk b o sz hk hlv hp
     have hsz : v.cells.size = i.size := by rw [← hn, ← hl]; simp
     have hst := run_storeCells_cells (P := P) b (o + off) v.cells.toList 0 w
      (fun j hj => by
       have hlt : o + off + j < arr.size := by omega
       simp [World.cell?, q1, hlt])
      (fun j hj => by
       simp only [World.frozen?, q1]
       rcases q5 with q5 | q5
       ·rw [q5]; simp
       ·obtain ⟨f1, f2⟩ := fr
        simp at q5 ⊢
        intro hh
        omega)
      (fun x hx => Sn (hlf x hx))
     simp only [zaR] at hst
     simp only [Instr.storeAt, Instr.sureAddr, Sem.run_bind, Sem.run_pure, Result.andThen_ok, storeVar, ht.rSize, hsz, ne_eq, not_true_eq_false, if_false]
     exact hst
    ·cases h
   ·cases h
  ·cases h
 ·cases h
theorem Ft (w : World) (o : Obj) : Below w.heap.size w (w.alloc o) := (Below.refl _ _).alloc (zao _) o
theorem Nk (w : World) (o : Obj) : (w.alloc o).heap[w.heap.size]? = some o := by
 show (w.heap.push o)[w.heap.size]? = some o
 simp
def Ami (w0 : World) (φ : Ee) (w : World) (H : Ab) (k : KO β) (r : β) (res : Value → World → Prop) : Prop :=
 ∃ v u φ' H' w', k v H' = some r ∧ PLe φ φ' ∧ HR w0 φ' w' H' ∧ Fr φ H w w' ∧ VR w0 φ' v u ∧ res u w'
def T9 (w0 : World) (φ : Ee) (w : World) (H : Ab) (k : KO β) (r : β) (res : Value → World → Prop) : Prop :=
 ∃ v u φ' H' w', k v H' = some r ∧ PLe φ φ' ∧ HR w0 φ' w' H' ∧ Below w.heap.size w w' ∧ VR w0 φ' v u ∧ res u w'
theorem Zn {w0 : World} {φ : Ee} {w : World} {H : Ab} (hr : HR w0 φ w H) {cs : List AV} {arr : Array Value} (e : TypeId) (hl : arr.size = cs.length) (hc : VRs w0 φ cs (fun j => arr[j]?))
  {k : KO β} {r : β} (h : Xw cs H k = some r) : T9 w0 φ w H k r fun u w' => u = .pointer (some ⟨w.heap.size, 0, none⟩) ∧ w' = w.alloc (.cells arr e) := by
 obtain ⟨h1, h2⟩ := hr.alloc (Ft w (.cells arr e)) (b := w.heap.size) (o := 0) (k := ⟨cs, true, true⟩) (zao _) (Nk w _) (by simpa using Nat.le_of_eq hl.symm) (fun _ => rfl) (.inl rfl) (by simpa using hc)
 refine ⟨_, _, _, _, _, h, Jf hr.fresh, h1, Ft w _, ?_, rfl, rfl⟩
 rw [VR]
 exact ⟨_, _, _, Fj _ _ _, rfl⟩
theorem Rb {t : TypeId} {i : TI} (ht : TOk P t i) (w : World) : ∃ z, (zeroValue t).run P w = .ok z w ∧ z.cells.toList = i.zero := by
 obtain ⟨inf, h1, _, _, z, h2, h3⟩ := ht.info
 exact ⟨z, by simp [zeroValue, typeInfo, h1, h2], h3⟩
theorem T8 (w0 : World) (φ : Ee) (i : TI) {z : Value} (h : z.cells.toList = i.zero) : VRs w0 φ (Hu i) (fun j => z.cells[j]?) := by
 have e : (fun j : Nat => z.cells[j]?) = fun j => i.zero[j]? := by
  funext j
  rw [← h, Array.getElem?_toList]
 rw [e]
 exact Vn w0 φ i.zero
theorem AaK {t : TypeId} {i : TI} (ht : TOk P t i) {w0 : World} {φ : Ee} {w : World} {H : Ab} (hr : HR w0 φ w H) {k : KO β} {r : β}
  (h : Xw (Hu i) H k = some r) : T9 w0 φ w H k r fun u w' => (Instr.alloc t true (.tuple #[])).run P w = .ok u w' := by
 obtain ⟨z, hz, hzc⟩ := Rb ht w
 have hsz : z.cells.size = i.size := by
  obtain ⟨inf, h1, h2, _, z', h3, h4⟩ := ht.info
  have e : (Hu i).length = z.cells.toList.length := by rw [hzc]; simp [Hu]
  rw [← ht.zsz, ← hzc]
  simp
 obtain ⟨v, u, φ', H', w', g1, g2, g3, g4, g5, rfl, rfl⟩ := Zn hr t (cs := Hu i) (arr := z.cells) (by rw [hsz, ← ht.zsz]; simp [Hu]) (T8 w0 φ i hzc) h
 refine ⟨v, _, φ', H', _, g1, g2, g3, g4, g5, ?_⟩
 simp only [Instr.alloc, Sem.run_bind, hz, Result.andThen_ok, newVar, newRow, run_newObj_alloc, Sem.run_pure]
theorem Aeh (t : TypeId) {w0 : World} {φ : Ee} {w : World} {H : Ab} (hr : HR w0 φ w H) {x : AV} {u : Value} (hx : VR w0 φ x u) {k : KO β} {r : β}
  (h : Xr x H k = some r) : T9 w0 φ w H k r fun v w' => (Instr.box t u).run P w = .ok v w' := by
 obtain ⟨cs, hcs, h⟩ := zab.1 h
 obtain ⟨hl, hc, _⟩ := R4 hx hcs
 obtain ⟨v, u', φ', H', w', g1, g2, g3, g4, g5, rfl, rfl⟩ := Zn hr t (cs := cs) (arr := u.cells) (by simpa using hl) (by simpa using hc) h
 refine ⟨v, _, φ', H', _, g1, g2, g3, g4, g5, ?_⟩
 simp only [Instr.box, Sem.run_bind, Result.andThen_ok, newVar, newRow, run_newObj_alloc, Sem.run_pure]
theorem Wt {i : TI} {fs : Array Field} (h : Gg i (.struct fs) = true) {f : Nat} {o : Nat} {t : TypeId} (hf : i.fields[f]? = some (o, t)) : ∃ fd, fs[f]? = some fd ∧ fd.offset = o ∧ fd.type = t := by
 simp only [Gg, zag, beq_iff_eq] at h
 rw [h.1.1.2, zaY] at hf
 obtain ⟨fd, h1, h2⟩ := zaM.1 hf
 cases h2
 exact ⟨fd, by simpa using h1, rfl, rfl⟩
theorem Ud {t : TypeId} {i : TI} (ht : TOk P t i) {f : Nat} {p : Nat × Nat} (hf : i.fields[f]? = some p) (hagg : i.isAgg = true) : ∃ fs, P.underlying t = some (.struct fs) ∧ Gg i (.struct fs) = true := by
 obtain ⟨d, h1, h2⟩ := ht.desc
 cases d <;> simp [Gg, hagg] at h2
 rename_i fs
 exact ⟨fs, h1, by simp [Gg, hagg, h2]⟩
theorem Ac8 {t : TypeId} {i : TI} (ht : TOk P t i) (hagg : i.isAgg = true) {f off : Nat} {ft : TypeId} (hf : i.fields[f]? = some (off, ft)) {j : TI} (hft : TOk P ft j) (hj : j.size ≠ 0)
  {w0 : World} {φ : Ee} {w : World} {H : Ab} (hr : HR w0 φ w H) {x : AV} {u : Value} (hx : VR w0 φ x u) {k : AV → Option β} {r : β}
  (h : Dh off x k = some r) : ∃ v uv, k v = some r ∧ VR w0 φ v uv ∧ ∀ w, (Instr.fieldAt t u f).run P w = .ok uv w := by
 obtain ⟨fs, hu, hd⟩ := Ud ht hf hagg
 obtain ⟨fd, h1, rfl, rfl⟩ := Wt hd hf
 have hun := fun w => run_underlying hu w
 have run : ∀ b o w, (Instr.fieldAt t (.pointer (some ⟨b, o, none⟩)) f).run P w = .ok (.pointer (some ⟨b, o + fd.offset, none⟩)) w := by
  intro b o w
  simp only [Instr.fieldAt, Sem.run_bind, hun, Result.andThen_ok, h1, Instr.sureAddr, Sem.run_pure, fieldPlace, hft.rSize, hj, if_false, Jp]
 cases x <;> simp only [Dh] at h <;> try cases h
 ·rw [VR] at hx
  obtain ⟨b, o, sz, hp, rfl⟩ := hx
  refine ⟨_, _, h, ?_, run _ _⟩
  rw [VR]
  exact ⟨b, o, sz, hp, by rw [zaH]⟩
 ·rw [VR] at hx
  obtain ⟨b, o, rfl, hb, hc⟩ := hx
  refine ⟨_, _, h, ?_, run _ _⟩
  rw [VR]
  refine ⟨b, o + fd.offset, rfl, hb, ?_⟩
  simpa only [zaH] using Pf hc fd.offset
theorem Ta {w0 : World} {φ : Ee} {x : AV} {u : Value} (h : VR w0 φ x u) {n : Int} (hn : asI x = some n) : ∃ kd, u = .int kd n := by
 match x, hn with
 | .sc (.int kd m), hn =>
  simp only [asI, Option.some.injEq] at hn
  subst hn
  rw [VR] at h
  exact ⟨kd, h⟩
theorem Z5 {w0 : World} {φ : Ee} {x : AV} {u : Value} (h : VR w0 φ x u) {b : Bool} (hn : asB x = some b) : u = .bool b := by
 match x, hn with
 | .sc (.bool b'), hn =>
  simp only [asB, Option.some.injEq] at hn
  subst hn
  rw [VR] at h
  exact h
theorem Tb {w0 : World} {φ : Ee} {x : AV} {u : Value} (h : VR w0 φ x u) {s : ByteArray} (hn : asS x = some s) : u = .string s := by
 match x, hn with
 | .sc (.string b'), hn =>
  simp only [asS, Option.some.injEq] at hn
  subst hn
  rw [VR] at h
  exact h
theorem Fn {t : TypeId} {i : TI} (ht : TOk P t i) (hs : i.sl = true) : P.underlying t = some (.slice i.elem) := by
 obtain ⟨d, g1, g2⟩ := ht.desc
 cases d <;> simp [Gg, hs] at g2
 rename_i e
 rw [g1, g2.1.1.2]
theorem Aem {t : TypeId} {i : TI} (ht : TOk P t i) (hs : i.isB = true) : P.underlying t = some .bool := by
 obtain ⟨d, g1, g2⟩ := ht.desc
 cases d <;> simp [Gg, hs] at g2
 rw [g1]
theorem L7 {t : TypeId} {i : TI} (ht : TOk P t i) (hs : i.isStr = true) : P.underlying t = some .string := by
 obtain ⟨d, g1, g2⟩ := ht.desc
 cases d <;> simp [Gg, hs] at g2
 rw [g1]
theorem V3 {t : TypeId} {i : TI} {kd : IntKind} (ht : TOk P t i) (hs : i.ik = some kd) : P.underlying t = some (.int kd) := by
 obtain ⟨d, g1, g2⟩ := ht.desc
 cases d <;> simp [Gg, hs] at g2
 rename_i e
 rw [g1, g2.1.2]
end
section
open Go Go.RowKit
variable {P : Program} {β : Type}
def Got (w0 : World) (φ : Ee) (k : AV → Option β) (r : β) (res : Value → Prop) : Prop := ∃ v u, k v = some r ∧ VR w0 φ v u ∧ res u
theorem Gk (w0 : World) (φ : Ee) (v : Value) : VR w0 φ (.sc v) v := by rw [VR]
theorem AcD {t : TypeId} {i j : TI} (ht : TOk P t i) (hs : i.sl = true) (hj : TOk P i.elem j) {w0 : World} {φ : Ee} {w : World} {x y : AV} {u v : Value} (hx : VR w0 φ x u) (hy : VR w0 φ y v) {k : AV → Option β} {r : β}
  (h : Dj j.size x y k = some r) : Got w0 φ k r fun uv => ∀ w, (Instr.indexAt t u v).run P w = .ok uv w := by
 obtain ⟨n, hn, h⟩ := zab.1 h
 obtain ⟨kd, rfl⟩ := Ta hy hn
 have hun := fun w => run_underlying (Fn ht hs) w
 have run : ∀ b o len c, 0 ≤ n → n < (len : Nat) → ∀ w, (Instr.indexAt t (.slice (some ⟨b, o, none⟩) len c) (.int kd n)).run P w = .ok (.pointer (some ⟨b, o + n.toNat * j.size, none⟩)) w := by
  intro b o len c h0 h1 w
  simp [Instr.indexAt, asIntOf, hun, hj.rSize, h0, h1, Jp]
 cases x with
 | ro len cells =>
  simp only at h
  split at h
  ·rename_i hc
   split at h
   ·rename_i hl
    rw [VR] at hx
    obtain ⟨A, c, rfl, hle, hh⟩ := hx
    rcases hh with rfl | ⟨b, o, rfl, hb, hcs⟩
    ·simp at hl
    ·refine ⟨_, _, h, ?_, run b o len c hc.1 hc.2⟩
     rw [VR]
     refine ⟨b, _, rfl, hb, ?_⟩
     simpa only [zaH] using Pf hcs (n.toNat * j.size)
   ·cases h
  ·cases h
 | sl id off len z =>
  simp only at h
  split at h
  ·rename_i hz
   split at h
   ·rename_i hc
    rw [VR] at hx
    rcases hx with ⟨_, _, rfl, _, _⟩ | ⟨b, o, sz, hp, ⟨rfl, _⟩ | ⟨c, hle, rfl, hcap⟩⟩
    ·omega
    ·omega
    ·refine ⟨_, _, h, ?_, run b (o + off) len c hc.1 hc.2⟩
     rw [VR]
     exact ⟨b, o, sz, hp, by rw [zaH]⟩
   ·cases h
  ·cases h
 | _ => cases h
theorem Af0 (t : TypeId) {i : TI} (ht : TOk P t i) (hs : i.isStr = true) {w0 : World} {φ : Ee} {w : World} {x y : AV} {u v : Value} (hx : VR w0 φ x u) (hy : VR w0 φ y v) {k : AV → Option β} {r : β}
  (h : AfB x y k = some r) : Got w0 φ k r fun uv => ∀ w, (Instr.index t u v).run P w = .ok uv w := by
 obtain ⟨n, hn, h⟩ := zab.1 h
 obtain ⟨s, hs', h⟩ := zab.1 h
 obtain ⟨kd, rfl⟩ := Ta hy hn
 have := Tb hx hs'
 subst this
 split at h
 ·rename_i hc
  refine ⟨_, _, h, Gk _ _ _, fun w => ?_⟩
  have hun := fun w => run_underlying (L7 ht hs) w
  have e : s[n.toNat]? = some (s[n.toNat]'hc.2) := by simp [hc.2]
  simp [Instr.index, asIntOf, hun, hc.1, e]
 ·cases h
theorem Ais {x : AV} {k : AV → Option β} {r : β} (h : Ik x k = some r) : ∃ n, Jn x = some n ∧ asS x = none ∧ k (.sc (.int .i64 (n : Int))) = some r := by
 cases x <;> simp only [Ik] at h <;> try cases h
 case nl => exact ⟨0, rfl, rfl, h⟩
 case ro n c => exact ⟨_, rfl, rfl, h⟩
 case sl a b c d => exact ⟨_, rfl, rfl, h⟩
theorem AkK {w0 : World} {φ : Ee} {x : AV} {u : Value} (h : VR w0 φ x u) {n : Nat} (hn : Jn x = some n) : (∃ s, u = .string s ∧ s.size = n ∧ x = .sc (.string s)) ∨ ∃ A c, u = .slice A n c ∧ n ≤ c := by
 cases x <;> simp only [Jn] at hn <;> try cases hn
 ·rename_i v
  cases v <;> simp only at hn <;> try cases hn
  rw [VR] at h
  subst h
  exact .inl ⟨_, rfl, rfl, rfl⟩
 ·rw [VR] at h
  obtain ⟨A, h⟩ := h
  exact .inr ⟨_, _, h, zao _⟩
 ·rw [VR] at h
  obtain ⟨A, c, h1, h2, _⟩ := h
  exact .inr ⟨A, c, h1, h2⟩
 ·rw [VR] at h
  rcases h with ⟨_, _, h1, A, h2⟩ | ⟨b, o, sz, _, ⟨h1, A, h2⟩ | ⟨c, h1, h2, _⟩⟩
  ·subst h1; exact .inr ⟨_, _, h2, zao _⟩
  ·subst h1; exact .inr ⟨_, _, h2, zao _⟩
  ·exact .inr ⟨_, _, h2, h1⟩
theorem Af3 {t : TypeId} {i : TI} (ht : TOk P t i) (hs : i.sl = true) {w0 : World} {φ : Ee} {w : World} {x : AV} {u : Value} (hx : VR w0 φ x u) {k : AV → Option β} {r : β} (ty : TypeId)
  (h : Ik x k = some r) : Got w0 φ k r fun uv => ∀ w, (Builtin.len_ #[t] ty #[u]).run P w = .ok uv w := by
 obtain ⟨n, hn, hno, hk'⟩ := Ais h
 refine ⟨_, .int .i64 n, hk', Gk _ _ _, fun w => ?_⟩
 rcases AkK hx hn with ⟨s, rfl, hsz, rfl⟩ | ⟨A, c, rfl, hle⟩
 ·cases hno
 ·have hun := fun w => run_underlying (Fn ht hs) w
  simp [Builtin.len_, hun, goInt]
theorem AcH {t : TypeId} {i : TI} (ht : TOk P t i) (hs : i.isStr = true) {w0 : World} {φ : Ee} {w : World} {x : AV} {u : Value} (hx : VR w0 φ x u) {k : AV → Option β} {r : β} (ty : TypeId)
  (h : Xu x k = some r) : Got w0 φ k r fun uv => ∀ w, (Builtin.len_ #[t] ty #[u]).run P w = .ok uv w := by
 obtain ⟨s, hs', h⟩ := zab.1 h
 have := Tb hx hs'
 subst this
 have hun := fun w => run_underlying (L7 ht hs) w
 exact ⟨_, _, h, Gk _ _ _, fun w => by simp [Builtin.len_, hun, goInt]⟩
theorem AaP {w0 : World} {φ : Ee} {tm : Tm} {a : Act} (ht : TR w0 φ tm a) {x : Option Operand} {d n : Int} (h : K2 (x.map (ev tm)) d = some n) : (x = none ∧ n = d) ∨ ∃ o kd, x = some o ∧ a.eval o = .int kd n := by
 cases x with
 | none => exact .inl ⟨rfl, by simpa [K2] using h.symm⟩
 | some o =>
  obtain ⟨kd, hk⟩ := Ta (Dz ht o) (by simpa [K2] using h)
  exact .inr ⟨o, kd, rfl, hk⟩
theorem Q0 {kd : IntKind} {n : Int} {c : Nat} {code : BoundsCode} (w : World) (h0 : 0 ≤ n) (h1 : n ≤ c) : (Instr.sliceBound (.int kd n) c code).run P w = .ok n.toNat w := by
 simp [Instr.sliceBound, asIntOf, h0, h1]
theorem X1 {w0 : World} {φ : Ee} {tm : Tm} {a : Act} (ht : TR w0 φ tm a) {lo hi : Option Operand} {l h : Int} {len cap : Nat} (hl : K2 (lo.map (ev tm)) 0 = some l) (hh : K2 (hi.map (ev tm)) len = some h)
  (h0 : 0 ≤ l) (h1 : l ≤ h) (h2 : h ≤ len) (h3 : len ≤ cap) (b : Bool) (w : World) : (Instr.sliceBounds b len cap (lo.map a.eval) (hi.map a.eval) none).run P w = .ok (l.toNat, h.toNat, cap) w := by
 rcases AaP ht hl with ⟨rfl, rfl⟩ | ⟨o, kd, rfl, e1⟩ <;> rcases AaP ht hh with ⟨rfl, rfl⟩ | ⟨o', kd', rfl, e2⟩
 ·simp [Instr.sliceBounds]
 ·have := Q0 (P := P) (kd := kd') (n := h) (c := cap) (code := if b then .sliceAcap else .sliceAlen) w (by omega) (by omega)
  simp [Instr.sliceBounds, e2, this]
 ·have := Q0 (P := P) (kd := kd) (n := l) (c := len) (code := .sliceB) w (by omega) (by omega)
  simp [Instr.sliceBounds, e1, this]
 ·have r1 := Q0 (P := P) (kd := kd') (n := h) (c := cap) (code := if b then .sliceAcap else .sliceAlen) w (by omega) (by omega)
  have r2 := Q0 (P := P) (kd := kd) (n := l) (c := h.toNat) (code := .sliceB) w (by omega) (by omega)
  simp [Instr.sliceBounds, e1, e2, r1, r2]
theorem Aa8 {t : TypeId} {i : TI} (ht : TOk P t i) (hs : i.isStr = true) {w0 : World} {φ : Ee} {w : World} {tm : Tm} {a : Act} (htm : TR w0 φ tm a) {x : AV} {u : Value} (hx : VR w0 φ x u) {lo hi : Option Operand} {k : AV → Option β} {r : β}
  (h : Qz x (lo.map (ev tm)) (hi.map (ev tm)) k = some r) : Got w0 φ k r fun uv => ∀ w, (Instr.sliceAt t u (lo.map a.eval) (hi.map a.eval) none).run P w = .ok uv w := by
 obtain ⟨s, hs', h⟩ := zab.1 h
 obtain ⟨l, hl, h⟩ := zab.1 h
 obtain ⟨hh, hhi, h⟩ := zab.1 h
 split at h
 ·rename_i hc
  have := Tb hx hs'
  subst this
  have hun := fun w => run_underlying (L7 ht hs) w
  have rb := X1 (P := P) htm hl hhi hc.1 hc.2.1 hc.2.2 (zao _) false
  refine ⟨_, _, h, Gk _ _ _, fun w => ?_⟩
  simp [Instr.sliceAt, Instr.slice, hun, rb]
 ·cases h
theorem AbJ {t : TypeId} {i j : TI} (ht : TOk P t i) (hs : i.sl = true) (hj : TOk P i.elem j) {w0 : World} {φ : Ee} {w : World} {tm : Tm} {a : Act} (htm : TR w0 φ tm a) {x : AV} {u : Value} (hx : VR w0 φ x u) {lo hi : Option Operand} {k : AV → Option β} {r : β}
  (h : Mf j.size x (lo.map (ev tm)) (hi.map (ev tm)) k = some r) : Got w0 φ k r fun uv => ∀ w, (Instr.sliceAt t u (lo.map a.eval) (hi.map a.eval) none).run P w = .ok uv w := by
 simp only [Mf, zab] at h
 obtain ⟨n, hn, l, hl, hh, hhi, h⟩ := h
 split at h
 case isFalse => cases h
 rename_i hc
 have hun := fun w => run_underlying (Fn ht hs) w
 have run : ∀ A c, n ≤ c → ∀ w, (Instr.sliceAt t (.slice A n c) (lo.map a.eval) (hi.map a.eval) none).run P w = .ok (.slice (if c = l.toNat then A else A.map (·.add (l.toNat * j.size))) (hh.toNat - l.toNat) (c - l.toNat)) w := by
  intro A c hle w
  have rb := X1 (P := P) htm hl hhi hc.1 hc.2.1 hc.2.2 hle true w
  simp [Instr.sliceAt, Instr.slice, hun, rb, hj.rSize]
 have e1 : (hh - l).toNat = hh.toNat - l.toNat := by omega
 cases x with
 | nl =>
  simp only at h
  rw [VR] at hx
  obtain ⟨A, rfl⟩ := hx
  simp only [Jn, Option.some.injEq] at hn
  subst hn
  refine ⟨.nl, _, h, ?_, run A 0 (zao _)⟩
  rw [VR]
  have : hh.toNat = 0 := by omega
  exact ⟨_, by simp [this]; rfl⟩
 | ro m cells =>
  simp only at h
  simp only [Jn, Option.some.injEq] at hn
  subst hn
  rw [VR] at hx
  obtain ⟨A, c, rfl, hle, hcs⟩ := hx
  refine ⟨_, _, h, ?_, run A c hle⟩
  rw [VR]
  refine ⟨_, _, by rw [e1], by omega, ?_⟩
  by_cases hz : hh.toNat - l.toNat = 0
  ·left
   rw [e1, hz]
   simp
  ·rcases hcs with rfl | ⟨b, o, rfl, hb, hcs⟩
   ·left; simp
   ·right
    refine ⟨b, o + l.toNat * j.size, ?_, hb, ?_⟩
    ·rw [if_neg (by omega)]
     simp [Jp]
    ·simpa only [zaH] using Rz (Pf hcs (l.toNat * j.size)) ((hh - l).toNat * j.size)
 | sl id off m z =>
  simp only at h
  simp only [Jn, Option.some.injEq] at hn
  subst hn
  split at h
  case isFalse => cases h
  rename_i hz
  rw [VR] at hx
  rcases hx with ⟨h1, rfl, rfl, A, rfl⟩ | ⟨b, o, sz, hp, ⟨rfl, A, rfl⟩ | ⟨c, hle, rfl, hcap⟩⟩
  ·refine ⟨_, _, h, ?_, run A 0 (zao _)⟩
   rw [VR]
   have : hh.toNat = 0 := by omega
   have h2 : l.toNat = 0 := by omega
   left
   exact ⟨h1, by simp [h2], by omega, _, by simp [this]; rfl⟩
  ·refine ⟨_, _, h, ?_, run A 0 (zao _)⟩
   rw [VR]
   right
   refine ⟨b, o, sz, hp, .inl ⟨by omega, ?_⟩⟩
   have : hh.toNat = 0 := by omega
   exact ⟨_, by simp [this]; rfl⟩
  ·refine ⟨_, _, h, ?_, run _ c hle⟩
   rw [VR]
   right
   refine ⟨b, o, sz, hp, ?_⟩
   by_cases hcl : c = l.toNat
   ·left
    refine ⟨by omega, some ⟨b, o + off, none⟩, ?_⟩
    rw [if_pos hcl, show hh.toNat - l.toNat = 0 by omega, show c - l.toNat = 0 by omega]
   ·right
    refine ⟨c - l.toNat, by omega, ?_, ?_⟩
    ·rw [if_neg hcl, e1]
     simp [Jp, zaH]
    ·subst hz
     have : l.toNat * j.size + (c - l.toNat) * j.size = c * j.size := by rw [← zbK]; congr 1; omega
     omega
 | _ => cases h
theorem Ty {op : BinOp} {t : TypeId} {x y : Operand} {u v : Value} (hu : ∀ cs, u ≠ .agg cs) (hn : u ≠ .nilIface) (w : World) : (eqGuard op t x y u v).run P w = .ok () w := by
 cases op <;> first | rfl | (cases u <;> first | rfl | (exact absurd rfl hn) | (exact absurd rfl (hu _)) | (cases v <;> rfl))
theorem Zg {op : BinOp} {t : TypeId} {ka kb : IntKind} {a b : Int} {v : Value} (w : World)
  (h : (if AkG op then shI op ka a b else if ka = kb then AfV op ka a b else none) = some v) : (Go.binOp op t (.int ka a) (.int kb b)).run P w = .ok v w := by
 split at h
 ·rename_i hs
  unfold shI at h
  split at h
  ·rename_i hb
   cases op <;> simp only [AkG] at hs <;> simp only at h <;> try cases h
   ·simp only [Go.binOp, shift_shl ka kb a b hb.1 hb.2]; rfl
   ·simp only [Go.binOp, shift_shr ka kb a b hb.1 hb.2]; rfl
  ·cases h
 ·rename_i hs
  split at h
  ·rename_i hk
   subst hk
   cases op <;> simp only [AkG] at hs <;> simp only [AfV] at h
   all_goals first
    | (split at h <;> first | (cases h; done) | (rename_i hz; cases h; simp [Go.binOp, Op.intDiv, hz]))
    | (cases h; done)
    | (cases h; simp [Go.binOp, Op.intArith, Op.intCmp, Op.intBits, Go.bits])
    | (exact absurd rfl hs)
  ·cases h
end
section
open Go Go.RowKit
variable {P : Program} {β : Type}
theorem AfG {op : BinOp} {t : TypeId} {a b : ByteArray} {v : Value} (w : World) (h : Yq op a b = some v) : (Go.binOp op t (.string a) (.string b)).run P w = .ok v w := by
 by_cases ha : op = .add
 ·subst ha
  simp only [Yq] at h
  split at h
  ·rename_i hz
   cases h
   have e : IntKind.i64.max = 9223372036854775807 := by decide
   have : ¬ (((a.size + b.size : Nat) : Int) > IntKind.i64.max) := by rw [e]; omega
   simp only [Go.binOp, Op.stringOp, if_neg this, Sem.run_pure]
  ·cases h
 ·cases op <;> simp only [Yq] at h
  all_goals first
   | (cases h; done)
   | (exact absurd rfl ha)
   | (cases h; simp [Go.binOp, Op.stringOp])
theorem Aeg {op : BinOp} (t : TypeId) (x y : Operand) {w0 : World} {φ : Ee} {w : World} {p q : AV} {u v : Value} (hx : VR w0 φ p u) (hy : VR w0 φ q v) {k : AV → Option β} {r : β}
  (h : Bz op p q k = some r) : Got w0 φ k r fun z => ∀ w, (do eqGuard op t x y u v; Go.binOp op t u v : Sem Value).run P w = .ok z w := by
 unfold Bz at h
 split at h
 ·rename_i ka a kb b
  rw [VR] at hx hy
  subst hx
  subst hy
  have hg := Ty (P := P) (op := op) (t := t) (x := x) (y := y) (u := .int ka a) (v := .int kb b) (fun _ h => by cases h) (fun h => by cases h)
  split at h
  ·rename_i hs
   obtain ⟨z, hz, hk⟩ := zab.1 h
   have := fun w => Zg (P := P) (op := op) (t := t) (ka := ka) (kb := kb) (a := a) (b := b) (v := z) w (by rw [if_pos hs]; exact hz)
   exact ⟨_, z, hk, Gk _ _ _, fun w => by simp only [Sem.run_bind, hg, Result.andThen_ok, this]⟩
  ·rename_i hs
   split at h
   ·rename_i he
    obtain ⟨z, hz, hk⟩ := zab.1 h
    have := fun w => Zg (P := P) (op := op) (t := t) (ka := ka) (kb := kb) (a := a) (b := b) (v := z) w (by rw [if_neg hs, if_pos he]; exact hz)
    exact ⟨_, z, hk, Gk _ _ _, fun w => by simp only [Sem.run_bind, hg, Result.andThen_ok, this]⟩
   ·cases h
 ·rename_i a b
  rw [VR] at hx hy
  subst hx
  subst hy
  have hg := Ty (P := P) (op := op) (t := t) (x := x) (y := y) (u := .string a) (v := .string b) (fun _ h => by cases h) (fun h => by cases h)
  obtain ⟨z, hz, hk⟩ := zab.1 h
  have := fun w => AfG (P := P) (op := op) (t := t) w hz
  exact ⟨_, z, hk, Gk _ _ _, fun w => by simp only [Sem.run_bind, hg, Result.andThen_ok, this]⟩
 ·cases h
theorem Acc {op : BinOp} {t : TypeId} {i : TI} (ht : TOk P t i) (hb : i.isB = true) (x y : Operand) {w0 : World} {φ : Ee} {w : World} {p q : AV} {u v : Value} (hx : VR w0 φ p u) (hy : VR w0 φ q v) {k : AV → Option β} {r : β}
  (h : Nw op p q k = some r) : Got w0 φ k r fun z => ∀ w, (do eqGuard op t x y u v; Go.binOp op t u v : Sem Value).run P w = .ok z w := by
 simp only [Nw, zab] at h
 obtain ⟨a, ha, b, hb', z, hz, hk⟩ := h
 have := Z5 hx ha
 subst this
 have := Z5 hy hb'
 subst this
 have hg := Ty (P := P) (op := op) (t := t) (x := x) (y := y) (u := .bool a) (v := .bool b) (fun _ h => by cases h) (fun h => by cases h)
 have he : ∀ w, (Op.equal t (.bool a) (.bool b)).run P w = .ok (a == b) w := by
  intro w
  have hun := fun w => run_underlying (Aem ht hb) w
  show (Op.equalIn (9999 + 1) t (.bool a) (.bool b)).run P w = _
  rw [Op.equalIn]
  simp [hun]
 refine ⟨_, z, hk, Gk _ _ _, fun w => ?_⟩
 cases op <;> simp only [binB] at hz <;> cases hz
 ·simp only [Sem.run_bind, hg, Result.andThen_ok, Go.binOp, he, Sem.run_pure]
 ·simp only [Sem.run_bind, hg, Result.andThen_ok, Go.binOp, he, Sem.run_pure]
theorem Po {T : Nat → Option TI} (hT : J8 P T) {w0 : World} {φ : Ee} (xs ys : Array Value) : ∀ (fs : List Field) (qs : List Nat) (e : Nat) (cs ds : List AV) (b : Bool), Sl T (fs.map fun q => (q.offset, q.type)) e = some qs → (∀ f ∈ fs, f.name ≠ "_") → Mu qs cs ds = some b →
  VRs w0 φ cs (fun j => xs[e + j]?) → VRs w0 φ ds (fun j => ys[e + j]?) → ∀ w, (Op.eqFields 9999 xs ys fs).run P w = .ok b w
 | [], qs, e, cs, ds, b, hk, _, he, _, _, w => by
  cases hk
  cases cs <;> cases ds <;> simp [Mu] at he
  subst he
  rfl
 | f :: fs, qs, e, cs, ds, b, hk, hn, he, hx, hy, w => by
  simp only [zat, Sl] at hk
  split at hk
  case h_2 => cases hk
  rename_i j ho hj
  have ho := zaT ho
  split at hk
  case h_2 => cases hk
  rename_i q l hq hl
  cases hk
  match cs, ds, he, hx, hy with
  | .sc a :: cs, .sc a' :: ds, he, hx, hy =>
   simp only [Mu] at he
   obtain ⟨r, hr, he⟩ := zab.1 he
   rw [VRs] at hx hy
   obtain ⟨⟨u, x1, x2⟩, hx⟩ := hx
   obtain ⟨⟨u', y1, y2⟩, hy⟩ := hy
   rw [VR] at x2 y2
   subst x2
   subst y2
   have hft := hT _ _ hj
   obtain ⟨d, g1, g2⟩ := hft.desc
   have hna : j.isAgg = false := by
    simp only [Abq] at hq
    cases d <;> simp_all [Gg]
   have pt : ∀ (zs : Array Value) (z : Value), zs[e + 0]? = some z → ∀ w, (part f.type zs f.offset).run P w = .ok z w := by
    intro zs z hz w
    rw [zaR] at hz
    simp only [part, Sem.run_bind, hft.rAgg, hna, Result.andThen_ok, zaa, if_false, ho, hz, Sem.run_pure]
   have heq : ∀ w, (Op.equalIn 9999 f.type u u').run P w = .ok r w := by
    intro w
    unfold Acn at hr
    split at hr
    ·rename_i ka x kb y
     split at hr
     ·rename_i hkk
      subst hkk
      cases hr
      simp only [Abq] at hq
      cases d <;> simp [Gg] at g2
      case int k' => exact run_equalIn_int w 9998 f.type _ k' _ _ g1
      all_goals (exfalso; simp_all)
     ·cases hr
    ·cases hr
     simp only [Abq] at hq
     cases d <;> simp [Gg] at g2
     case string => exact run_equalIn_string w 9998 f.type _ _ g1
     all_goals (exfalso; simp_all)
    ·cases hr
     simp only [Abq] at hq
     cases d <;> simp [Gg] at g2
     case bool => exact run_equalIn_bool' w 9998 f.type _ _ g1
     all_goals (exfalso; simp_all)
    ·cases hr
   simp only [Op.eqFields, hn f za1, ne_eq, not_false_eq_true, if_true, Sem.run_bind, pt xs u x1, pt ys u' y1, Result.andThen_ok, heq]
   cases r
   ·simp only [zaa, if_false, Option.some.injEq] at he
    subst he
    simp [Sem.run_pure]
   ·simp only [if_true] at he
    simp only [zau, zaa, if_false]
    refine Po (w0 := w0) (φ := φ) hT xs ys fs l (e + 1) cs ds b hl (fun g hg => hn g (zav _ hg)) he ?_ ?_ w
    ·simpa only [zaH, zbM 1] using hx
    ·simpa only [zaH, zbM 1] using hy
theorem Acb {T : Nat → Option TI} (hT : J8 P T) {op : BinOp} {t : TypeId} {i : TI} (ht : TOk P t i) (hq : i.eqs = true) {qs : List Nat} (hk : Sl T i.fields 0 = some qs) (x y : Operand) {w0 : World} {φ : Ee} {w : World} {p q : AV} {u v : Value} (hx : VR w0 φ p u) (hy : VR w0 φ q v) {k : AV → Option β} {r : β}
  (h : Ra op qs p q k = some r) : Got w0 φ k r fun z => ∀ w, (do eqGuard op t x y u v; Go.binOp op t u v : Sem Value).run P w = .ok z w := by
 unfold Ra at h
 split at h
 ·rename_i cs ds
  obtain ⟨b, hb, h⟩ := zab.1 h
  rw [VR] at hx hy
  obtain ⟨xs, rfl, hxl, hxs⟩ := hx
  obtain ⟨ys, rfl, hyl, hys⟩ := hy
  obtain ⟨hagg, hst, hgd, hnm⟩ := ht.eqf hq
  obtain ⟨d, g1, g2⟩ := ht.desc
  cases d <;> simp [Gg, hagg] at g2
  rename_i fs
  have hfo : P.fieldsOf t = fs := by simp [Program.fieldsOf, g1]
  have hfl : i.fields = fs.toList.map fun f => (f.offset, f.type) := by
   have := g2.1.1.2
   simpa using this
  rw [hfl] at hk
  rw [hfo] at hnm
  have he := Po hT xs.toArray ys.toArray fs.toList qs 0 cs ds b hk hnm hb (by simpa using hxs) (by simpa using hys)
  have hun : P.underlying t = some (.struct (P.fieldsOf t)) := by rw [hfo, g1]
  have hg := fun w => run_eqGuard_agg (P := P) w op t x y xs.toArray ys.toArray hgd
  have hin := fun w => run_equalIn_agg (P := P) w 9999 t xs.toArray ys.toArray hun hst
  rw [hfo] at hin
  split at h
  ·exact ⟨_, _, h, Gk _ _ _, fun w => by simp only [Sem.run_bind, hg, Result.andThen_ok, run_eql_struct, hin, he]⟩
  ·exact ⟨_, _, h, Gk _ _ _, fun w => by simp only [Sem.run_bind, hg, Result.andThen_ok, run_neq_struct, hin, he]⟩
  ·cases h
 ·cases h
theorem AiV {op : UnOp} {w0 : World} {φ : Ee} {w : World} {p : AV} {u : Value} (hx : VR w0 φ p u) {k : AV → Option β} {r : β}
  (h : pUn op p k = some r) : Got w0 φ k r fun z => ∀ w, (Op.unary op u).run P w = .ok z w := by
 unfold pUn at h
 split at h
 ·rw [VR] at hx; subst hx; exact ⟨_, _, h, Gk _ _ _, fun _ => rfl⟩
 ·rw [VR] at hx; subst hx; exact ⟨_, _, h, Gk _ _ _, fun _ => rfl⟩
 ·cases h
theorem AcQ {w0 : World} {φ : Ee} {c x y : AV} {uc u v : Value} (hc : VR w0 φ c uc) (hx : VR w0 φ x u) (hy : VR w0 φ y v) {k : AV → Option β} {r : β}
  (h : M1 c x y k = some r) : ∃ b, uc = .bool b ∧ Got w0 φ k r fun z => z = if b then u else v := by
 obtain ⟨b, hb, h⟩ := zab.1 h
 refine ⟨b, Z5 hc hb, ?_⟩
 split at h
 ·rw [VR] at hx hy
  subst hx
  subst hy
  exact ⟨_, _, h, Gk _ _ _, rfl⟩
 ·split at h
  ·rename_i hb'; subst hb'; exact ⟨_, _, h, hx, rfl⟩
  ·rename_i hb'; simp at hb'; subst hb'; exact ⟨_, _, h, hy, rfl⟩
theorem Ael {s d : TypeId} {i j : TI} {kd : IntKind} (hs : TOk P s i) (hd : TOk P d j) (hj : j.ik = some kd) {w0 : World} {φ : Ee} {w : World} {x : AV} {u : Value} (hx : VR w0 φ x u) {k : AV → Option β} {r : β}
  (h : Xs kd x k = some r) : Got w0 φ k r fun z => ∀ w, (convert s d u).run P w = .ok z w := by
 obtain ⟨n, hn, h⟩ := zab.1 h
 obtain ⟨k0, rfl⟩ := Ta hx hn
 obtain ⟨ds, hds, _⟩ := hs.desc
 refine ⟨_, _, h, Gk _ _ _, fun w => ?_⟩
 simp [convert, run_underlying hds, run_underlying (V3 hd hj), Conv.intToInt]
theorem Acl {s d : TypeId} {i j : TI} (hs : TOk P s i) (hd : TOk P d j) (hj : j.isStr = true) {w0 : World} {φ : Ee} {w : World} {x : AV} {u : Value} (hx : VR w0 φ x u) {k : AV → Option β} {r : β}
  (h : AdU x k = some r) : Got w0 φ k r fun z => ∀ w, (convert s d u).run P w = .ok z w := by
 obtain ⟨n, hn, h⟩ := zab.1 h
 have := Tb hx hn
 subst this
 obtain ⟨ds, hds, _⟩ := hs.desc
 refine ⟨_, _, h, Gk _ _ _, fun w => ?_⟩
 simp [convert, run_underlying hds, run_underlying (L7 hd hj)]
theorem Rg {w0 : World} {φ : Ee} {w : World} {H : Ab} (hr : HR w0 φ w H) {x : AV} {u : Value} (hx : VR w0 φ x u) {sz n : Nat} {cs : List AV} (hn : Jn x = some n) (hc : Dn H sz x = some cs) :
  ∃ (A : Option Addr) (c : Nat) (vs : List Value), u = .slice A n c ∧ n ≤ c ∧ cs.length = n * sz ∧ vs.length = n * sz ∧ VRs w0 φ cs (fun j => vs[j]?) ∧ (∀ a, A = some a → (loadCells a (n * sz)).run P w = .ok vs.toArray w) ∧ (A = none → n * sz = 0) ∧
   (∀ a, A = some a → ∀ j v, vs[j]? = some v → w.cell? (a.add j) = some v) := by
 have key : ∀ (b o : Nat), cs.length = n * sz → VRs w0 φ cs (fun j => w.cell? ⟨b, o + j, none⟩) →
   ∃ vs : List Value, vs.length = n * sz ∧ VRs w0 φ cs (fun j => vs[j]?) ∧ (loadCells ⟨b, o, none⟩ (n * sz)).run P w = .ok vs.toArray w ∧ ∀ j v, vs[j]? = some v → w.cell? ((⟨b, o, none⟩ : Addr).add j) = some v := by
  intro b o hl hcs
  rw [Df] at hcs
  refine ⟨(List.range (n * sz)).map fun j => (w.cell? ⟨b, o + j, none⟩).getD undef, by simp, ?_, ?_, ?_⟩
  ·rw [Df]
   intro j y hj
   obtain ⟨u, h1, h2⟩ := hcs j y hj
   have : j < n * sz := by rw [← hl]; exact (zac.1 hj).1
   exact ⟨u, by simp [this, h1], h2⟩
  ·exact run_loadCells (P := P) w ⟨b, o, none⟩ (n * sz) _ (fun j hj => by
    obtain ⟨u, h1, h2⟩ := hcs j _ (zaS (by omega))
    rw [Jp, h1]
    rfl)
  ·intro j v hj
   have hlt : j < n * sz := by simpa using (zac.1 hj).1
   obtain ⟨u, h1, h2⟩ := hcs j _ (zaS (by omega))
   rw [Jp, h1]
   simp [hlt, h1] at hj
   rw [hj]
 have empty : ∀ A c, u = .slice A n c → n ≤ c → cs = [] → n * sz = 0 → ∃ (A : Option Addr) (c : Nat) (vs : List Value), u = .slice A n c ∧ n ≤ c ∧ cs.length = n * sz ∧ vs.length = n * sz ∧ VRs w0 φ cs (fun j => vs[j]?) ∧ (∀ a, A = some a → (loadCells a (n * sz)).run P w = .ok vs.toArray w) ∧ (A = none → n * sz = 0) ∧
   (∀ a, A = some a → ∀ j v, vs[j]? = some v → w.cell? (a.add j) = some v) := by
  intro A c hu hle hcs hz
  refine ⟨A, c, [], hu, hle, by simp [hcs, hz], by simp [hz], ?_, ?_, fun _ => hz, fun _ _ j v hj => by simp at hj⟩
  ·rw [hcs, VRs]; trivial
  ·intro a _
   rw [hz]
   rfl
 cases x with
 | nl =>
  simp only [Jn, Option.some.injEq] at hn
  simp only [Dn, Option.some.injEq] at hc
  subst hn
  rw [VR] at hx
  obtain ⟨A, hx⟩ := hx
  exact empty A 0 hx (zao _) hc.symm (by simp)
 | ro m cells =>
  simp only [Jn, Option.some.injEq] at hn
  subst hn
  simp only [Dn] at hc
  split at hc
  ·rename_i hl
   simp only [Option.some.injEq] at hc
   subst hc
   rw [VR] at hx
   obtain ⟨A, c, rfl, hle, hh⟩ := hx
   rcases hh with rfl | ⟨b, o, rfl, hb, hcs⟩
   ·exact empty A c rfl hle rfl (by simpa using hl.symm)
   ·have h2 := VRs.mono (PLe.none φ) hcs
    simp only [← Vq hr.bel hb] at h2
    obtain ⟨vs, g1, g2, g3, g4⟩ := key b o hl h2
    exact ⟨_, c, vs, rfl, hle, hl, g1, g2, (fun a ha => by cases ha; exact g3), (fun h => by cases h), (fun a ha => by cases ha; exact g4)⟩
  ·cases hc
 | sl id off m z =>
  simp only [Jn, Option.some.injEq] at hn
  subst hn
  simp only [Dn] at hc
  split at hc
  ·rename_i hz
   rw [VR] at hx
   have hlen : cs.length = m * sz := by
    unfold As at hc
    split at hc
    ·split at hc
     ·split at hc
      ·cases hc; simp; omega
      ·cases hc
     ·cases hc
    ·cases hc
   rcases hx with ⟨_, _, rfl, A, rfl⟩ | ⟨b, o, s0, hp, ⟨rfl, A, rfl⟩ | ⟨c, hle, rfl, _⟩⟩
   ·exact empty A 0 rfl (zao _) (zar (by simpa using hlen)) (by simp)
   ·exact empty A 0 rfl (zao _) (zar (by simpa using hlen)) (by simp)
   ·obtain ⟨h1, h2⟩ := Ny hr hc hp
    obtain ⟨vs, g1, g2, g3, g4⟩ := key b (o + off) h1 h2
    exact ⟨_, c, vs, rfl, hle, h1, g1, g2, (fun a ha => by cases ha; exact g3), (fun h => by cases h), (fun a ha => by cases ha; exact g4)⟩
  ·cases hc
 | _ => cases hc
theorem AaR {w0 : World} {φ : Ee} : ∀ {cs : List AV} {bs : List UInt8} {vs : List Value}, cs.mapM Kx = some bs → vs.length = cs.length → VRs w0 φ cs (fun j => vs[j]?) → ∃ ns : List Int, vs = ns.map (Value.int .u8) ∧ bs = ns.map fun n => UInt8.ofNat n.toNat
 | [], bs, vs, h, hl, _ => by
  simp at h
  subst h
  exact ⟨[], zar (by simpa using hl), rfl⟩
 | x :: xs, bs, [], h, hl, _ => by simp at hl
 | x :: xs, bs, v :: vs, h, hl, hv => by
  simp only [zaI, zbh, zaP, zab, Option.some.injEq] at h
  obtain ⟨b, hb, bs', hbs, rfl⟩ := h
  rw [VRs] at hv
  obtain ⟨⟨u, h1, h2⟩, h3⟩ := hv
  simp only [zbi, Option.some.injEq] at h1
  subst h1
  obtain ⟨ns, rfl, rfl⟩ := AaR hbs (by simpa using hl) (by simpa using h3)
  unfold Kx at hb
  split at hb
  ·rename_i n
   simp only [Option.some.injEq] at hb
   subst hb
   rw [VR] at h2
   subst h2
   exact ⟨n :: ns, rfl, rfl⟩
  ·cases hb
theorem Acj {s d : TypeId} {i j e : TI} (hs : TOk P s i) (hd : TOk P d j) (hi : i.sl = true) (hj : j.isStr = true) (he : TOk P i.elem e) (hu : e.ik = some .u8) {w0 : World} {φ : Ee} {w : World} {H : Ab} (hr : HR w0 φ w H) {x : AV} {u : Value} (hx : VR w0 φ x u) {k : AV → Option β} {r : β}
  (h : O8 x H k = some r) : Got w0 φ k r fun z => ∀ w', Below w.heap.size w w' → (convert s d u).run P w' = .ok z w' := by
 simp only [O8, zab] at h
 obtain ⟨cs, hcs, bs, hbs, hk⟩ := h
 have hn : ∃ n, Jn x = some n := by cases x <;> simp only [Dn] at hcs <;> first | (cases hcs; done) | exact ⟨_, rfl⟩
 obtain ⟨n, hn⟩ := hn
 obtain ⟨A, c, vs, rfl, hle, g1, g2, g3, g4, g5, g6⟩ := Rg (P := P) hr hx hn hcs
 obtain ⟨ns, rfl, rfl⟩ := AaR hbs (by omega) g3
 refine ⟨_, _, hk, Gk _ _ _, fun w' hw => ?_⟩
 rw [run_convert_bytes_string w' s d i.elem A n c (Fn hs hi) (V3 he hu) (L7 hd hj)]
 cases A with
 | none =>
  have : n * 1 = 0 := g5 rfl
  have e0 : ns = [] := zar (by simpa using g2.trans this)
  subst e0
  simp [Conv.bytesToString]
  rfl
 | some a =>
  have hld := run_loadCells_list (P := P) w' a (ns.map (Value.int .u8)) (fun q z hq => by
   have hz := g6 a rfl q z hq
   have hb : a.block < w.heap.size := by
    rcases Nat.lt_or_ge a.block w.heap.size with h | h
    ·exact h
    ·have e : (a.add q).block = a.block := by unfold Addr.add; split <;> rfl
     simp [World.cell?, e, zbz h] at hz
   have e : (a.add q).block = a.block := by unfold Addr.add; split <;> rfl
   rw [hw.cell (p := a.add q) (by rw [e]; exact hb)]
   exact hz)
  have hnl : (ns.map (Value.int .u8)).length = n := by simpa using g2
  rw [hnl] at hld
  rw [run_bytesToString w' a n c ns hld]
  congr 2
  have key : ∀ (ns : List Int) (s : ByteArray), ns.foldl (fun r n => r.push (UInt8.ofNat n.toNat)) s = ⟨s.data ++ (ns.map fun n => UInt8.ofNat n.toNat).toArray⟩ := by
   intro ns
   induction ns with
   | nil => intro s; simp
   | cons n ns ih => intro s; rw [zbj, ih]; simp [ByteArray.push]
  rw [key]
  have he0 : ByteArray.empty.data = #[] := rfl
  rw [he0]
  simp
end
section
open Go Go.RowKit
variable {P : Program} {β : Type}
theorem Nz {H : Ab} {id : Nat} {k0 : Iu} {i : Nat} {k : Iu} (h : (H.set id { k0 with live := false })[i]? = some k) (hl : k.live = true) : i ≠ id ∧ H[i]? = some k := by
 rw [List.getElem?_set] at h
 split at h
 ·rename_i he
  subst he
  split at h
  ·simp only [Option.some.injEq] at h
   subst h
   cases hl
  ·cases h
 ·rename_i he
  exact ⟨fun h => he h.symm, h⟩
theorem HR.dead {w0 : World} {φ : Ee} {w : World} {H : Ab} (hr : HR w0 φ w H) (id : Nat) (k0 : Iu) : HR w0 φ w (H.set id { k0 with live := false }) where
 bel := hr.bel
 blk i k b o sz hi hl hp := hr.blk i k b o sz (Nz hi hl).2 hl hp
 nil i k hi hl hp := hr.nil i k (Nz hi hl).2 hl hp
 inj i i' k k' b o sz o' sz' hi hi' hl hl' hp hp' := hr.inj i i' k k' b o sz o' sz' (Nz hi hl).2 (Nz hi' hl').2 hl hl' hp hp'
 dom i p hp := by simpa using hr.dom i p hp
theorem Fr.dead {φ : Ee} {H : Ab} {w w' : World} {id : Nat} {k0 : Iu} (h : Fr φ (H.set id { k0 with live := false }) w w') : Fr φ H w w' :=
 ⟨h.os, h.tape, h.output, h.size, fun b hb hn => h.block b hb fun i k o sz hi hl => hn i k o sz (Nz hi hl).2 hl⟩
theorem HR.nilblk {w0 : World} {φ : Ee} {w : World} {H : Ab} (hr : HR w0 φ w H) : HR w0 (Vk φ H.length .nl) w (H ++ [⟨[], true, true⟩]) := by
 have hle := Jf (p := Pl.nl) hr.fresh
 have old : ∀ (i : Nat) (k' : Iu), (H ++ [⟨[], true, true⟩])[i]? = some k' → i ≠ H.length → H[i]? = some k' := by
  intro i k' hi hne
  have : i < H.length := by
   have := (zac.1 hi).1
   simp at this
   omega
  rwa [zal this] at hi
 have oldp : ∀ (i : Nat) (p : Pl), Vk φ H.length .nl i = some p → i ≠ H.length → φ i = some p := by
  intro i p hp hne
  unfold Vk at hp
  rwa [if_neg hne] at hp
 have ne : ∀ i b o sz, Vk φ H.length .nl i = some (.pt b o sz) → i ≠ H.length := by
  intro i b o sz hp he
  subst he
  rw [Fj] at hp
  cases hp
 refine ⟨hr.bel, ?_, ?_, ?_, ?_⟩
 ·intro i k b o sz hi hl hp
  have he := ne i b o sz hp
  obtain ⟨h1, arr, e, fr, g1, g2, g3, g4, g5, g6⟩ := hr.blk i k b o sz (old i k hi he) hl (oldp i _ hp he)
  exact ⟨h1, arr, e, fr, g1, g2, g3, g4, g5, VRs.mono hle g6⟩
 ·intro i k hi hl hp
  by_cases he : i = H.length
  ·subst he
   simp at hi
   subst hi
   rfl
  ·exact hr.nil i k (old i k hi he) hl (oldp i _ hp he)
 ·intro i i' k k' b o sz o' sz' hi hi' hl hl' hp hp'
  exact hr.inj i i' k k' b o sz o' sz' (old i k hi (ne _ _ _ _ hp)) (old i' k' hi' (ne _ _ _ _ hp')) hl hl' (oldp i _ hp (ne _ _ _ _ hp)) (oldp i' _ hp' (ne _ _ _ _ hp'))
 ·intro i p hp
  by_cases he : i = H.length
  ·subst he; simp
  ·have := hr.dom i p (oldp i _ hp he); simp; omega
theorem HR.adopt {w0 : World} {φ : Ee} {w w' : World} {H : Ab} (hr : HR w0 φ w H) {id : Nat} {k : Iu} {b o sz : Nat} (hk : H[id]? = some k) (hlv : k.live = true) (hp : φ id = some (.pt b o sz))
  (hw : w'.os = w.os ∧ w'.tape = w.tape ∧ w'.output = w.output ∧ w'.heap.size = w.heap.size) (ho : ∀ c, c ≠ b → w'.heap[c]? = w.heap[c]?) {k' : Iu} {o' : Nat} (hb : Ajf w0 φ w' k' b o' sz) :
  HR w0 (Vk φ H.length (.pt b o' sz)) w' (H.set id { k with live := false } ++ [k']) ∧ Fr φ H w w' := by
 have hle := Jf (p := Pl.pt b o' sz) hr.fresh
 have hfr : Fr φ H w w' := ⟨hw.1, hw.2.1, hw.2.2.1, by omega, fun c hc hn => ho c fun he => hn id k o sz hk hlv (by rw [he]; exact hp)⟩
 have hlen : (H.set id { k with live := false }).length = H.length := by simp
 have old : ∀ (i : Nat) (q : Iu), (H.set id { k with live := false } ++ [k'])[i]? = some q → q.live = true → i ≠ H.length → i ≠ id ∧ H[i]? = some q := by
  intro i q hi hl hne
  have : i < (H.set id { k with live := false }).length := by
   have := (zac.1 hi).1
   simp at this ⊢
   omega
  rw [zal this] at hi
  exact Nz hi hl
 have new : ∀ (q : Iu), (H.set id { k with live := false } ++ [k'])[H.length]? = some q → q = k' := by
  intro q hi
  rw [zaj (by simp)] at hi
  simp at hi
  exact hi.symm
 have oldp : ∀ (i : Nat) (p : Pl), Vk φ H.length (.pt b o' sz) i = some p → i ≠ H.length → φ i = some p := by
  intro i p hp hne
  unfold Vk at hp
  rwa [if_neg hne] at hp
 have other : ∀ i q bb oo ss, H[i]? = some q → q.live = true → φ i = some (.pt bb oo ss) → i ≠ id → bb ≠ b := by
  intro i q bb oo ss hi hl hp' hne he
  subst he
  exact hne (hr.inj i id q k _ oo ss o sz hi hk hl hlv hp' hp)
 refine ⟨⟨Mp hr hfr, ?_, ?_, ?_, ?_⟩, hfr⟩
 ·intro i q b' o2 sz' hi hl hp'
  by_cases he : i = H.length
  ·subst he
   have := new q hi
   subst this
   rw [Fj] at hp'
   cases hp'
   obtain ⟨h1, arr, e, fr, g1, g2, g3, g4, g5, g6⟩ := hb
   exact ⟨h1, arr, e, fr, g1, g2, g3, g4, g5, VRs.mono hle g6⟩
  ·obtain ⟨hne, hq⟩ := old i q hi hl he
   have hpp := oldp i _ hp' he
   obtain ⟨h1, arr, e, fr, g1, g2, g3, g4, g5, g6⟩ := hr.blk i q b' o2 sz' hq hl hpp
   exact ⟨h1, arr, e, fr, by rw [ho b' (other i q b' o2 sz' hq hl hpp hne)]; exact g1, g2, g3, g4, g5, VRs.mono hle g6⟩
 ·intro i q hi hl hp'
  by_cases he : i = H.length
  ·subst he
   rw [Fj] at hp'
   cases hp'
  ·exact hr.nil i q (old i q hi hl he).2 hl (oldp i _ hp' he)
 ·intro i i' q q' b1 o1 sz1 o2 sz2 hi hi' hl hl' hp1 hp2
  by_cases he : i = H.length
  ·by_cases he' : i' = H.length
   ·omega
   ·subst he
    rw [Fj] at hp1
    cases hp1
    obtain ⟨hne, hq⟩ := old i' q' hi' hl' he'
    exact absurd rfl (other i' q' _ o2 sz2 hq hl' (oldp i' _ hp2 he') hne)
  ·by_cases he' : i' = H.length
   ·subst he'
    rw [Fj] at hp2
    cases hp2
    obtain ⟨hne, hq⟩ := old i q hi hl he
    exact absurd rfl (other i q _ o1 sz1 hq hl (oldp i _ hp1 he) hne)
   ·exact hr.inj i i' q q' b1 o1 sz1 o2 sz2 (old i q hi hl he).2 (old i' q' hi' hl' he').2 hl hl' (oldp i _ hp1 he) (oldp i' _ hp2 he')
 ·intro i p hp'
  by_cases he : i = H.length
  ·subst he; simp
  ·have := hr.dom i p (oldp i _ hp' he); simp; omega
theorem Oc {w0 : World} {φ : Ee} {xs ys : List AV} {g : Nat → Option Value} (h1 : VRs w0 φ xs g) (h2 : VRs w0 φ ys (fun j => g (xs.length + j))) : VRs w0 φ (xs ++ ys) g := by
 rw [Df] at *
 intro j x hj
 by_cases hlt : j < xs.length
 ·rw [zal hlt] at hj
  exact h1 j x hj
 ·rw [zaj (by omega)] at hj
  have := h2 (j - xs.length) x hj
  rwa [show xs.length + (j - xs.length) = j by omega] at this
theorem Tx {t t' ty : TypeId} {i j : TI} (ht : TOk P t i) (hs : i.sl = true) (hj : TOk P i.elem j) (hu : (∃ e, P.underlying t' = some (.slice e)) ∨ P.underlying t' = some .string)
  {w : World} {A : Option Addr} {n c m : Nat} {x : Value} {news : List Value} (hlen : (Builtin.lenOf x).run P w = .ok m w) (hfc : (Builtin.firstCells j.size m x).run P w = .ok news.toArray w) (hroom : n + m ≤ c) :
  (Builtin.append_ #[t, t'] ty #[.slice A n c, x]).run P w = match A with
   | none => .ok (.slice none (n + m) c) w
   | some a => ((storeCells (a.add (n * j.size)) news).run P w).andThen fun _ w' => .ok (.slice A (n + m) c) w' := by
 have hun := fun w => run_underlying (Fn ht hs) w
 rcases hu with ⟨e, hu⟩ | hu
 ·have hu := fun w => run_underlying hu w
  cases A with
  | none => simp [Builtin.append_, hun, hj.rSize, hu, hlen, hfc, hroom]
  | some a => simp [Builtin.append_, hun, hj.rSize, hu, hlen, hfc, hroom]
 ·have hu := fun w => run_underlying hu w
  cases A with
  | none => simp [Builtin.append_, hun, hj.rSize, hu, hlen, hfc, hroom]
  | some a => simp [Builtin.append_, hun, hj.rSize, hu, hlen, hfc, hroom]
theorem U3 {t t' ty : TypeId} {i j : TI} (ht : TOk P t i) (hs : i.sl = true) (hj : TOk P i.elem j) (hu : (∃ e, P.underlying t' = some (.slice e)) ∨ P.underlying t' = some .string)
  {w : World} {A : Option Addr} {n c m : Nat} {x : Value} {olds news : List Value} (hlen : (Builtin.lenOf x).run P w = .ok m w) (hfc : ∀ w', w' = w ∨ w' = w.drew → (Builtin.firstCells j.size m x).run P w' = .ok news.toArray w')
  (hold : ∀ w', w' = w ∨ w' = w.drew → (Builtin.firstCells j.size n (.slice A n c)).run P w' = .ok olds.toArray w') (hroom : ¬ n + m ≤ c) (hnc : n ≤ c) (hb : (n + m) * j.bytes ≤ 140737488355328) :
  ∃ rest : List Value, (Builtin.append_ #[t, t'] ty #[.slice A n c, x]).run P w = .ok (.slice (some ⟨w.heap.size, 0, none⟩) (n + m) (grownCap w (n + m) c i.elem)) (w.drew.alloc (.cells (olds ++ news ++ rest).toArray i.elem)) ∧
   rest.length = (grownCap w (n + m) c i.elem - (n + m)) * j.size := by
 have hun := fun w => run_underlying (Fn ht hs) w
 obtain ⟨inf, hi, e1, e2, z, hz1, hz2⟩ := hj.info
 have hzs : z.cells.size = j.size := by rw [← hj.zsz, ← hz2]; simp
 have hbp := hj.bpos
 have hle : (n + m) ≤ 140737488355328 := zaA (Nat.le_mul_of_pos_right _ hbp) hb
 have h63 : ¬ ((9223372036854775807 : Int) < (n : Int) + (m : Int)) := by omega
 have h48 := growslice_fits (need := n + m) (old := c) (bytes := j.bytes) (by omega) hb
 refine ⟨(Builtin.zeroCells z.cells (grownCap w (n + m) c i.elem - (n + m))).toList, ?_, by rw [Array.length_toList, size_zeroCells, hzs]⟩
 have o1 := hold w.drew (.inr rfl)
 have o2 := hfc w.drew (.inr rfl)
 have h48' : ¬ (281474976710656 < Builtin.nextslicecap (n + m) c * inf.bytes) := by rw [e2]; omega
 rcases hu with ⟨e, hu⟩ | hu
 ·have hu := fun w => run_underlying hu w
  simp [Builtin.append_, hun, hj.rSize, hu, hlen, hroom, typeInfo, hi, h48', h63, Question.forced, o1, o2, zeroValue, hz1, newRow, grownCap]
  congr 2
  apply zbk
  simp
 ·have hu := fun w => run_underlying hu w
  simp [Builtin.append_, hun, hj.rSize, hu, hlen, hroom, typeInfo, hi, h48', h63, Question.forced, o1, o2, zeroValue, hz1, newRow, grownCap]
  congr 2
  apply zbk
  simp
theorem Nl (w : World) (o : Obj) : Below w.heap.size w (w.drew.alloc o) := by
 have h := Ft w.drew o
 exact ⟨h.os, h.tape, h.output, h.size, h.block⟩
theorem AaL {t t' ty : TypeId} {i j : TI} (ht : TOk P t i) (hs : i.sl = true) (hj : TOk P i.elem j) (hu : (∃ e, P.underlying t' = some (.slice e)) ∨ P.underlying t' = some .string)
  {w0 : World} {φ : Ee} {w : World} {H H1 : Ab} (hr : HR w0 φ w H) {x : AV} {u v : Value} (hx : VR w0 φ x u) {n m : Nat} {cx cy : List AV} {news : List Value}
  (hlen : (Builtin.lenOf v).run P w = .ok m w) (hfc : ∀ w', w' = w ∨ w' = w.drew → (Builtin.firstCells j.size m v).run P w' = .ok news.toArray w')
  (hl : news.length = m * j.size) (hcl : cy.length = m * j.size) (hcy : VRs w0 φ cy (fun q => news[q]?)) (hleaf : ∀ z ∈ news, z.oneCell' = true)
  (hn : Jn x = some n) (hcx : Dn H j.size x = some cx) (hki : Tn H x = some H1) (hb : (n + m) * j.bytes ≤ 140737488355328)
  {k : KO β} {r : β} (hk : k (.sl H1.length 0 (n + m) j.size) (H1 ++ [⟨cx ++ cy, true, true⟩]) = some r) :
  Ami w0 φ w H k r fun u' w' => (Builtin.append_ #[t, t'] ty #[u, v]).run P w = .ok u' w' ∧ (x = .nl → Below w.heap.size w w') := by
 obtain ⟨A, c, olds, rfl, hnc, c1, c2, c3, c4, c5, c6⟩ := Rg (P := P) hr hx hn hcx
 have hold : ∀ w', w' = w ∨ w' = w.drew → (Builtin.firstCells j.size n (.slice A n c)).run P w' = .ok olds.toArray w' := by
  intro w' hw'
  cases A with
  | none =>
   have e : olds = [] := zar (by rw [c2, c5 rfl])
   subst e
   exact run_firstCells_none w' j.size n n c
  | some a =>
   refine run_firstCells_some w' j.size n a n c olds c2 fun q z hq => ?_
   have := c6 a rfl q z hq
   rcases hw' with rfl | rfl
   ·exact this
   ·simpa using this
 have h1len : H1.length = H.length := by
  cases x <;> simp only [Tn] at hki
  all_goals first
   | (cases hki; done)
   | (cases hki; rfl)
   | (simp only [zab] at hki; obtain ⟨k0, hk0, hki⟩ := hki; split at hki <;> cases hki; simp)
 have hdead : HR w0 φ w H1 ∧ ∀ w', Fr φ H1 w w' → Fr φ H w w' := by
  cases x <;> simp only [Tn] at hki
  all_goals first
   | (cases hki; done)
   | (cases hki; exact ⟨hr, fun _ h => h⟩)
   | (simp only [zab] at hki; obtain ⟨k0, hk0, hki⟩ := hki; split at hki <;> cases hki; exact ⟨hr.dead _ _, fun _ h => h.dead⟩)
 by_cases hroom : n + m ≤ c
 ·have hrun := Tx (ty := ty) ht hs hj hu hlen (hfc w (.inl rfl)) hroom (A := A)
  cases x with
  | nl =>
   simp only [Tn, Option.some.injEq] at hki
   subst hki
   rw [VR] at hx
   obtain ⟨A', hx⟩ := hx
   cases hx
   have hm : m = 0 := by omega
   subst hm
   simp only [Dn, Option.some.injEq] at hcx
   subst hcx
   have hcy0 : cy = [] := zar (by simpa using hcl)
   subst hcy0
   have hnw0 : news = [] := zar (by simpa using hl)
   subst hnw0
   refine ⟨_, .slice A 0 0, _, _, _, hk, Jf hr.fresh, hr.nilblk, Fr.refl _ _ _, ?_, ?_⟩
   ·rw [VR]
    exact .inl ⟨Fj _ _ _, rfl, rfl, _, rfl⟩
   ·rw [hrun]
    exact ⟨by cases A <;> rfl, fun _ => Below.refl _ _⟩
  | sl id off n' z =>
   simp only [Jn, Option.some.injEq] at hn
   subst hn
   simp only [Tn, zab] at hki
   obtain ⟨k0, hk0, hki⟩ := hki
   split at hki
   ·rename_i happ
    simp only [Option.some.injEq] at hki
    subst hki
    simp only [Dn] at hcx
    split at hcx
    ·rename_i hz
     unfold As at hcx
     rw [hk0] at hcx
     simp only at hcx
     split at hcx
     ·rename_i hlv
      split at hcx
      ·rename_i hle
       simp only [Option.some.injEq] at hcx
       rw [VR] at hx
       rcases hx with ⟨hp, rfl, rfl, A', hx⟩ | ⟨b, o, sz, hp, hx⟩
       ·cases hx
        have hm : m = 0 := by omega
        subst hm
        have hcy0 : cy = [] := zar (by simpa using hcl)
        have hcx0 : cx = [] := zar (by simpa using c1)
        subst hcy0 hcx0
        have hnw0 : news = [] := zar (by simpa using hl)
        subst hnw0
        refine ⟨_, .slice A 0 0, _, _, _, hk, Jf hdead.1.fresh, hdead.1.nilblk, Fr.refl _ _ _, ?_, ?_⟩
        ·rw [VR]
         exact .inl ⟨Fj _ _ _, rfl, rfl, _, rfl⟩
        ·rw [hrun]
         exact ⟨by cases A <;> rfl, fun h => by cases h⟩
       ·obtain ⟨hbw, arr, e, fr, q1, q2, q3, q4, q5, q6⟩ := hr.blk id k0 b o sz hk0 hlv hp
        rcases hx with ⟨rfl, A', hx⟩ | ⟨c', hc', hx, hfit⟩
        ·cases hx
         have hm : m = 0 := by omega
         subst hm
         have hcy0 : cy = [] := zar (by simpa using hcl)
         have hcx0 : cx = [] := zar (by simpa using c1)
         have hnw0 : news = [] := zar (by simpa using hl)
         subst hcy0 hcx0 hnw0
         obtain ⟨g1, g2⟩ := hr.adopt hk0 hlv hp ⟨rfl, rfl, rfl, rfl⟩ (fun _ _ => rfl) (k' := ⟨[] ++ [], true, true⟩) (o' := o) (w' := w) ⟨hbw, arr, e, fr, q1, q2, by simp; omega, fun _ => q4 happ, .inl (q4 happ), by simp [VRs]⟩
         simp only [List.length_set] at hk
         refine ⟨_, .slice A 0 0, _, _, _, hk, Jf hr.fresh, g1, g2, ?_, ?_⟩
         ·rw [VR]
          exact .inr ⟨_, _, _, Fj _ _ _, .inl ⟨rfl, _, rfl⟩⟩
         ·rw [hrun]
          exact ⟨by cases A <;> rfl, fun h => by cases h⟩
        ·cases hx
         subst hz
         have hfr := q4 happ
         obtain ⟨s1, s2, s3, s4⟩ := Kk b news (o + off + n' * j.size) w
         have hfit2 : n' * j.size + m * j.size ≤ c * j.size := by rw [← zbK]; exact Nat.mul_le_mul_right _ hroom
         obtain ⟨arr', g1, g2, g3⟩ := Nd b e fr news (o + off + n' * j.size) w arr q1 (by omega)
         have hst := run_storeCells_cells (P := P) b (o + off + n' * j.size) news 0 w
          (fun q hq => by
           have hlt : o + off + n' * j.size + q < arr.size := by omega
           simp [World.cell?, q1, hlt])
          (fun q hq => by
           simp only [World.frozen?, q1, hfr]
           simp)
          hleaf
         simp only [zaR] at hst
         have hcxl : cx.length = n' * j.size := c1
         have hv : VRs w0 φ (cx ++ cy) (fun q => arr'[o + off + q]?) := by
          refine Oc ?_ ?_
          ·rw [Df] at q6 ⊢
           intro q y hq
           have hlt := (zac.1 hq).1
           rw [← hcx, zbt (by omega), zba] at hq
           obtain ⟨uu, e1, e2⟩ := q6 _ y hq
           refine ⟨uu, ?_, e2⟩
           rw [g3, if_neg (by omega), zaH]
           exact e1
          ·rw [Df] at hcy ⊢
           intro q y hq
           have hlt := (zac.1 hq).1
           obtain ⟨uu, e1, e2⟩ := hcy q y hq
           refine ⟨uu, ?_, e2⟩
           rw [g3, if_pos (by omega), ← e1]
           congr 1
           omega
         obtain ⟨a1, a2⟩ := hr.adopt hk0 hlv hp ⟨s1, s2, s3, s4⟩ (fun c hc => Ia b news _ w c hc) (k' := ⟨cx ++ cy, true, true⟩) (o' := o + off) (w' := w.setCells b (o + off + n' * j.size) news)
          ⟨hbw, arr', e, fr, g1, by omega, by simp; omega, fun _ => hfr, .inl hfr, hv⟩
         simp only [List.length_set] at hk
         refine ⟨_, .slice (some ⟨b, o + off, none⟩) (n' + m) c, _, _, _, hk, Jf hr.fresh, a1, a2, ?_, ?_⟩
         ·rw [VR]
          exact .inr ⟨_, _, _, Fj _ _ _, .inr ⟨c, hroom, rfl, hfit⟩⟩
         ·rw [hrun]
          simp only [Jp]
          rw [hst]
          exact ⟨rfl, fun h => by cases h⟩
      ·cases hcx
     ·cases hcx
    ·cases hcx
   ·cases hki
  | _ => cases hki
 ·obtain ⟨rest, h1, h2⟩ := U3 (ty := ty) ht hs hj hu hlen hfc hold hroom hnc hb
  have hcap := grownCap_ge w (n + m) c i.elem
  obtain ⟨a1, a2⟩ := hdead.1.alloc (Nl w (.cells (olds ++ news ++ rest).toArray i.elem)) (b := w.heap.size) (o := 0) (k := ⟨cx ++ cy, true, true⟩) (zao _) (Nk w.drew _)
   (by simp; omega) (fun _ => rfl) (.inl rfl) (by
    simp only [za0, List.getElem?_toArray]
    refine Oc ?_ ?_
    ·rw [Df] at c3 ⊢
     intro q y hq
     have hlt := (zac.1 hq).1
     rw [zaf, zal (by omega)]
     exact c3 q y hq
    ·rw [Df] at hcy ⊢
     intro q y hq
     have hlt := (zac.1 hq).1
     rw [zaf, zaj (by omega), zal (by omega), show cx.length + q - olds.length = q by omega]
     exact hcy q y hq)
  refine ⟨_, _, _, _, _, hk, Jf hdead.1.fresh, a1, hdead.2 _ a2, ?_, h1, fun _ => Nl w _⟩
  rw [VR]
  refine .inr ⟨_, _, _, Fj _ _ _, .inr ⟨_, hcap, rfl, ?_⟩⟩
  have : (n + m) * j.size + (grownCap w (n + m) c i.elem - (n + m)) * j.size = grownCap w (n + m) c i.elem * j.size := by
   rw [← zbK]
   congr 1
   omega
  have e2 : (n + m) * j.size = n * j.size + m * j.size := zbK _ _ _
  simp
  omega
theorem Aed {t t' ty : TypeId} {i i' j : TI} (ht : TOk P t i) (hs : i.sl = true) (hj : TOk P i.elem j) (ht' : TOk P t' i') (hs' : i'.sl = true)
  {w0 : World} {φ : Ee} {w : World} {H : Ab} (hr : HR w0 φ w H) {x y : AV} {u v : Value} (hx : VR w0 φ x u) (hy : VR w0 φ y v) {k : KO β} {r : β}
  (h : Lk j.size j.bytes x y H k = some r) : Ami w0 φ w H k r fun u' w' => (Builtin.append_ #[t, t'] ty #[u, v]).run P w = .ok u' w' ∧ (x = .nl → Below w.heap.size w w') := by
 simp only [Lk, zab] at h
 obtain ⟨n, hn, m, hm, cx, hcx, cy, hcy, H1, hki, h⟩ := h
 split at h
 ·rename_i hb
  split at h
  ·rename_i hlf
   obtain ⟨B, c, news, rfl, hmc, d1, d2, d3, d4, d5, d6⟩ := Rg (P := P) hr hy hm hcy
   refine AaL ht hs hj (.inl ⟨_, Fn ht' hs'⟩) hr hx (m := m) (cy := cy) (news := news) rfl ?_ d2 d1 d3 ?_ hn hcx hki hb h
   ·intro w' hw'
    cases B with
    | none =>
     have e : news = [] := zar (by rw [d2, d5 rfl])
     subst e
     exact run_firstCells_none w' j.size m m c
    | some a =>
     refine run_firstCells_some w' j.size m a m c news d2 fun q z hq => ?_
     have := d6 a rfl q z hq
     rcases hw' with rfl | rfl
     ·exact this
     ·simpa using this
   ·intro z hz
    obtain ⟨q, hq⟩ := List.mem_iff_getElem?.1 hz
    rw [Df] at d3
    have hlt : q < cy.length := by rw [d1, ← d2]; exact (zac.1 hq).1
    obtain ⟨uu, e1, e2⟩ := d3 q _ (zaS hlt)
    rw [hq] at e1
    cases e1
    exact Sn (Aau e2 (za9.1 hlf _ (List.getElem_mem hlt)))
  ·cases h
 ·cases h
theorem Uc (w0 : World) (φ : Ee) (s : ByteArray) : VRs w0 φ (Ba s) (fun q => (s.data.toList.map fun b => Value.int .u8 b.toNat)[q]?) := by
 rw [Df]
 intro q y hq
 simp only [Ba, zaY] at hq ⊢
 obtain ⟨b, hb, rfl⟩ := zaM.1 hq
 exact ⟨_, by rw [hb]; rfl, Gk _ _ _⟩
theorem Aca {t t' ty : TypeId} {i i' j : TI} (ht : TOk P t i) (hs : i.sl = true) (hj : TOk P i.elem j) (ht' : TOk P t' i') (hs' : i'.isStr = true) (hj1 : j.size = 1)
  {w0 : World} {φ : Ee} {w : World} {H : Ab} (hr : HR w0 φ w H) {x y : AV} {u v : Value} (hx : VR w0 φ x u) (hy : VR w0 φ y v) {k : KO β} {r : β}
  (h : Xp j.bytes x y H k = some r) : Ami w0 φ w H k r fun u' w' => (Builtin.append_ #[t, t'] ty #[u, v]).run P w = .ok u' w' ∧ (x = .nl → Below w.heap.size w w') := by
 simp only [Xp, zab] at h
 obtain ⟨n, hn, s, hm, cx, hcx, H1, hki, h⟩ := h
 have := Tb hy hm
 subst this
 split at h
 ·rename_i hb
  refine AaL ht hs hj (.inr (L7 ht' hs')) hr hx (m := s.size) (cx := cx) (cy := Ba s) (news := s.data.toList.map fun b => Value.int .u8 b.toNat) rfl ?_ ?_ ?_ (Uc _ _ _) ?_ hn ?_ hki hb ?_
  ·intro w' _
   have e : s.extract 0 s.size = s := by
    simp
   simp only [Builtin.firstCells, e, Sem.run_pure]
   congr 1
   apply zbk
   simp
  ·simp [hj1]
  ·simp [hj1, Ba]
  ·intro z hz
   obtain ⟨b, _, rfl⟩ := zbS.1 hz
   rfl
  ·rw [hj1]; exact hcx
  ·rw [hj1]; exact h
 ·cases h
theorem AdX {α : Type} (z : List α) : ∀ (n q : Nat), q < n * z.length → ((zak n z).flatten)[q]? = z[q % z.length]?
 | 0, q, h => by omega
 | n + 1, q, h => by
  rw [zbn, za3]
  have e : (n + 1) * z.length = n * z.length + z.length := zb3 _ _
  by_cases hq : q < z.length
  ·rw [zal hq, Nat.mod_eq_of_lt hq]
  ·rw [zaj (by omega), AdX z n _ (by omega)]
   congr 1
   conv => rhs; rw [show q = (q - z.length) + z.length by omega]
   rw [Nat.add_mod_right]
theorem Xa (w0 : World) (φ : Ee) {j : TI} {z : Value} (hz : z.cells.toList = j.zero) (hs : j.zero.length = j.size) (hp : 0 < j.size) (n : Nat) :
  VRs w0 φ ((zak n (Hu j)).flatten) (fun q => (madeCells z.cells (n * j.size))[q]?) ∧ ((zak n (Hu j)).flatten).length = n * j.size := by
 have hl : (Hu j).length = j.size := by simp [Hu, hs]
 have hlen : ((zak n (Hu j)).flatten).length = n * j.size := by simp [hl]
 have hzs : z.cells.size = j.size := by rw [← hs, ← hz]; simp
 refine ⟨?_, hlen⟩
 have hz0 := T8 w0 φ j hz
 rw [Df] at hz0 ⊢
 intro q y hq
 have hlt : q < n * j.size := by rw [← hlen]; exact (zac.1 hq).1
 rw [AdX _ _ _ (by rw [hl]; exact hlt), hl] at hq
 obtain ⟨u, e1, e2⟩ := hz0 _ y hq
 refine ⟨u, ?_, e2⟩
 have hm : q % j.size < z.cells.size := by rw [hzs]; exact Nat.mod_lt _ hp
 have e : (madeCells z.cells (n * j.size))[q]? = some (z.cells[q % z.cells.size]!) := by
  simp [madeCells, hlt]
 rw [e, hzs, getElem!_pos z.cells _ hm]
 rw [Array.getElem?_eq_getElem hm] at e1
 exact e1
theorem AcL {t : TypeId} {i j : TI} (ht : TOk P t i) (hs : i.sl = true) (hj : TOk P i.elem j)
  {w0 : World} {φ : Ee} {w : World} {H : Ab} (hr : HR w0 φ w H) {x y : AV} {u v : Value} (hx : VR w0 φ x u) (hy : VR w0 φ y v) {k : KO β} {r : β}
  (h : Xv j.size j.bytes (Hu j) x y H k = some r) : T9 w0 φ w H k r fun u' w' => (Instr.makeSlice t u v).run P w = .ok u' w' := by
 simp only [Xv, zab] at h
 obtain ⟨n, hn, m, hm, h⟩ := h
 split at h
 ·rename_i he
  subst he
  split at h
  ·rename_i h0
   split at h
   ·rename_i hb
    obtain ⟨kl, rfl⟩ := Ta hx hn
    obtain ⟨kc, rfl⟩ := Ta hy hm
    obtain ⟨inf, hi, e1, e2, z, hz1, hz2⟩ := hj.info
    obtain ⟨g1, g2⟩ := Xa w0 φ hz2 hj.zsz hj.spos n.toNat
    have hle : n.toNat ≤ 140737488355328 := zaA (Nat.le_mul_of_pos_right _ hj.bpos) hb
    have hbz : (inf.bytes : Int) * n ≤ 281474976710656 := by
     have e : ((n.toNat : Int)) = n := Int.toNat_of_nonneg h0
     rw [e2, ← e]
     have : ((j.bytes * n.toNat : Nat) : Int) ≤ 281474976710656 := by rw [Nat.mul_comm]; omega
     rwa [Int.natCast_mul] at this
    have hrun := run_make (P := P) w t i.elem inf z (Fn ht hs) hi hz1 kl kc n n h0 (Int.le_refl _) hbz (by omega)
    obtain ⟨a1, a2⟩ := hr.alloc (Ft w (.cells (madeCells z.cells (n.toNat * inf.size)) i.elem)) (b := w.heap.size) (o := 0) (k := ⟨(zak n.toNat (Hu j)).flatten, true, true⟩) (zao _) (Nk w _)
     (by rw [size_madeCells, e1, za0]; exact Nat.le_of_eq g2) (fun _ => rfl) (.inl rfl) (by simpa [e1] using g1)
    refine ⟨_, _, _, _, _, h, Jf hr.fresh, a1, Ft w _, ?_, hrun⟩
    rw [VR]
    refine .inr ⟨_, _, _, Fj _ _ _, .inr ⟨_, zao _, rfl, ?_⟩⟩
    rw [size_madeCells, e1]
    omega
   ·cases h
  ·cases h
 ·cases h
theorem AaU {t ty : TypeId} {i j : TI} (ht : TOk P t i) (hs : i.sl = true) (hj : TOk P i.elem j) {w0 : World} {φ : Ee} {w : World} {H : Ab} (hr : HR w0 φ w H) {x : AV} {u : Value} (hx : VR w0 φ x u) {k : Ab → Option β} {r : β}
  (h : Tv j.size (Hu j) x H k = some r) : ∃ H' w', k H' = some r ∧ HR w0 φ w' H' ∧ Fr φ H w w' ∧ (Builtin.clear_ #[t] ty #[u]).run P w = .ok (.tuple #[]) w' := by
 have hun := run_underlying (Fn ht hs) w
 have h00 : ∀ (A : Option Addr) (c : Nat), (Builtin.clear_ #[t] ty #[.slice A 0 c]).run P w = .ok (.tuple #[]) w := fun A c => by
  cases A <;> simp [Builtin.clear_, hun]
 cases x with
 | nl =>
  rw [VR] at hx
  obtain ⟨A, rfl⟩ := hx
  exact ⟨H, w, h, hr, Fr.refl _ _ _, h00 A 0⟩
 | sl id off n s =>
  simp only [Tv] at h
  split at h
  ·rename_i hsz
   subst hsz
   rw [VR] at hx
   cases n with
   | zero =>
    simp only at h
    have : ∃ A c, u = .slice A 0 c := by
     rcases hx with ⟨_, _, _, A, rfl⟩ | ⟨b, o, sz, hp, ⟨_, A, rfl⟩ | ⟨c, _, rfl, _⟩⟩
     ·exact ⟨_, _, rfl⟩
     ·exact ⟨_, _, rfl⟩
     ·exact ⟨_, _, rfl⟩
    obtain ⟨A, c, rfl⟩ := this
    exact ⟨H, w, h, hr, Fr.refl _ _ _, h00 A c⟩
   | succ n =>
    rcases hx with ⟨_, _, h0, _⟩ | ⟨b, o, sz, hp, ⟨h0, _⟩ | ⟨c, hc, rfl, hle0⟩⟩
    ·cases h0
    ·cases h0
    ·simp only at h
     split at h
     ·rename_i kk hk
      split at h
      ·rename_i hlv
       split at h
       ·rename_i hle
        obtain ⟨inf, hi, e1, e2, z, hz1, hz2⟩ := hj.info
        obtain ⟨z', hz', hzc⟩ := Rb hj w
        obtain ⟨g1, g2⟩ := Xa w0 φ hzc hj.zsz hj.spos (n + 1)
        have hzs : z'.cells.size = j.size := by rw [← hj.zsz, ← hzc]; simp
        have hzc' : Builtin.zeroCells z'.cells (n + 1) = madeCells z'.cells ((n + 1) * j.size) := by rw [← hzs]; rfl
        have hlen : (Builtin.zeroCells z'.cells (n + 1)).toList.length = (n + 1) * j.size := by rw [hzc']; simp [size_madeCells]
        obtain ⟨k1, k2⟩ := hr.write hk hlv hp (off := off) (cs := (zak (n + 1) (Hu j)).flatten) (vs := (Builtin.zeroCells z'.cells (n + 1)).toList) (by rw [g2]; exact hle) (by rw [g2, hlen]) (by
         rw [hzc']
         simpa using g1)
        refine ⟨_, _, h, k1, k2, ?_⟩
        obtain ⟨hb, arr, e, fr, q1, q2, q3, q4, q5, q6⟩ := hr.blk id kk b o sz hk hlv hp
        have hst := run_storeCells_cells (P := P) b (o + off) (Builtin.zeroCells z'.cells (n + 1)).toList 0 w
         (fun q hq => by
          have hlt : o + off + q < arr.size := by omega
          simp [World.cell?, q1, hlt])
         (fun q hq => by
          simp only [World.frozen?, q1]
          rcases q5 with q5 | q5
          ·rw [q5]; simp
          ·obtain ⟨f1, f2⟩ := fr
           simp at q5 ⊢
           intro hh
           omega)
         (fun v hv => by
          refine Sn ?_
          rw [hzc'] at hv
          simp only [madeCells, Array.toList_map, zbS] at hv
          obtain ⟨q, _, rfl⟩ := hv
          have hm : q % z'.cells.size < z'.cells.size := Nat.mod_lt _ (by rw [hzs]; exact hj.spos)
          rw [getElem!_pos z'.cells _ hm]
          refine hj.zlf _ ?_
          rw [← hzc]
          simp)
        simp only [zaR] at hst
        simp [Builtin.clear_, hun, hz', hst]
       ·cases h
      ·cases h
     ·cases h
  ·cases h
 | _ => simp [Tv] at h
theorem Ack {s d : TypeId} {i j e : TI} (hs : TOk P s i) (hd : TOk P d j) (hi : i.isStr = true) (hj : j.sl = true) (he : TOk P j.elem e) (hu : e.ik = some .u8) {w0 : World} {φ : Ee} {w : World} {H : Ab} (hr : HR w0 φ w H) {x : AV} {u : Value} (hx : VR w0 φ x u) {k : KO β} {r : β}
  (h : Xt x H k = some r) : T9 w0 φ w H k r fun z w' => (convert s d u).run P w = .ok z w' := by
 simp only [Xt, zab] at h
 obtain ⟨b, hb, h⟩ := h
 have := Tb hx hb
 subst this
 split at h
 ·have hrun := Lib.run_convert_string_bytes (P := P) w s d j.elem b (L7 hs hi) (Fn hd hj) (V3 he hu)
  have hge := grownCap_ge w b.size 0 j.elem
  have hsz : (Lib.bytesCells w j.elem b).size = grownCap w b.size 0 j.elem := by
   simp [Lib.bytesCells]
   have : b.data.size = b.size := rfl
   omega
  have hbel : Below w.heap.size w (Lib.bytesWorld w j.elem b) := by
   refine ⟨?_, ?_, ?_, ?_, fun q hq => Lib.bytesWorld_at_old w j.elem b q hq⟩
   ·simp [Lib.bytesWorld, World.freeze]; rfl
   ·simp [Lib.bytesWorld, World.freeze]
   ·simp [Lib.bytesWorld, World.freeze]; rfl
   ·rw [Lib.bytesWorld_size]; omega
  have hlen : (Ba b).length = b.size := by simp [Ba]
  have hle : 0 + (Ba b).length ≤ (Lib.bytesCells w j.elem b).size := by omega
  obtain ⟨a1, a2⟩ := hr.alloc hbel (b := w.heap.size) (o := 0) (k := ⟨Ba b, true, false⟩) (zao _) (Lib.bytesWorld_at_new w j.elem b)
   (by simp only [za0]; omega) (fun h => by cases h) (.inr hle) (by
    have := Uc w0 φ b
    rw [Df] at this ⊢
    intro q y hq
    obtain ⟨uu, e1, e2⟩ := this q y hq
    refine ⟨uu, ?_, e2⟩
    have hlt := (zac.1 hq).1
    rw [za0, Lib.bytesCells, Array.getElem?_append_left (by simp; rw [hlen] at hlt; exact hlt)]
    simpa using e1)
  refine ⟨_, _, _, _, _, h, Jf hr.fresh, a1, hbel, ?_, hrun⟩
  rw [VR]
  refine .inr ⟨_, _, _, Fj _ _ _, .inr ⟨_, hge, rfl, ?_⟩⟩
  simp only [za0]
  omega
 ·cases h
end
section
open Go Go.RowKit
variable {P : Program} {β : Type}
theorem Afy {t : TypeId} {i : TI} (ht : TOk P t i) (hagg : i.isAgg = true) {f off : Nat} {ft : TypeId} (hf : i.fields[f]? = some (off, ft)) {j : TI} (hft : TOk P ft j)
  {w0 : World} {φ : Ee} {x : AV} {u : Value} (hx : VR w0 φ x u) {k : AV → Option β} {r : β}
  (h : Ai6 j.isAgg off j.size x k = some r) : Got w0 φ k r fun uv => ∀ w, (Instr.field t u f).run P w = .ok uv w := by
 obtain ⟨fs, hu, hd⟩ := Ud ht hf hagg
 obtain ⟨fd, h1, rfl, rfl⟩ := Wt hd hf
 have hun := fun w => run_underlying hu w
 cases x <;> simp only [Ai6] at h <;> try cases h
 rename_i cs
 rw [VR] at hx
 obtain ⟨xs, rfl, hl, hc⟩ := hx
 split at h
 ·rename_i hle
  cases ha : j.isAgg with
  | true =>
   rw [ha, if_pos rfl] at h
   refine ⟨_, .agg (xs.toArray.extract fd.offset (fd.offset + j.size)), h, ?_, fun w => ?_⟩
   ·rw [VR]
    refine ⟨(xs.drop fd.offset).take j.size, by simp, by simp [hl], ?_⟩
    have h2 := Rz (Pf hc fd.offset) j.size
    rw [Df] at h2 ⊢
    intro q y hq
    obtain ⟨uu, e1, e2⟩ := h2 q y hq
    have hlt : q < j.size := by
     have := (zac.1 hq).1
     simp at this
     omega
    exact ⟨uu, by rw [zbt hlt, zba]; exact e1, e2⟩
   ·simp only [Instr.field, Sem.run_bind, hun, Result.andThen_ok, h1, asAgg, Sem.run_pure, part, hft.rAgg, ha, if_true, hft.rSize]
  | false =>
   rw [ha, if_neg (by simp)] at h
   obtain ⟨v, hv, hk⟩ := zab.1 h
   have hv := Xk hv
   have hc0 := Rz (Pf hc fd.offset) j.size
   rw [hv, VRs] at hc0
   obtain ⟨⟨uu, e1, e2⟩, _⟩ := hc0
   refine ⟨_, uu, hk, e2, fun w => ?_⟩
   simp only [zaR] at e1
   simp only [Instr.field, Sem.run_bind, hun, Result.andThen_ok, h1, asAgg, Sem.run_pure, part, hft.rAgg, ha, zaa, if_false, List.getElem?_toArray, e1]
 ·cases h
theorem Acq {w0 : World} {φ : Ee} {x : AV} {u : Value} (hx : VR w0 φ x u) {j : Nat} {k : AV → Option β} {r : β}
  (h : Sw x j k = some r) : Got w0 φ k r fun uv => ∀ w, (Instr.extract u j).run P w = .ok uv w := by
 cases x <;> simp only [Sw] at h <;> try cases h
 rename_i vs
 rw [VR] at hx
 obtain ⟨xs, rfl, hl, hc⟩ := hx
 obtain ⟨v, hv, hk⟩ := zab.1 h
 rw [Df] at hc
 obtain ⟨uu, e1, e2⟩ := hc j v hv
 refine ⟨_, uu, hk, e2, fun w => ?_⟩
 simp only [Instr.extract, List.getElem?_toArray, e1, Sem.run_pure]
theorem AbI (off : Nat) : ∀ (l : List Value) (s : Nat) (arr : Array Value), off + s + l.length ≤ arr.size →
  ((l.zipIdx s).foldl (fun cs (c, j) => cs.setIfInBounds (off + j) c) arr).size = arr.size ∧
   ∀ q : Nat, ((l.zipIdx s).foldl (fun cs (c, j) => cs.setIfInBounds (off + j) c) arr)[q]? = if off + s ≤ q ∧ q < off + s + l.length then l[q - (off + s)]? else arr[q]?
 | [], s, arr, h => ⟨rfl, fun q => by rw [if_neg (by simp)]; rfl⟩
 | v :: l, s, arr, h => by
  simp only [zan] at h
  have ih := AbI off l (s + 1) (arr.setIfInBounds (off + s) v) (by simp; omega)
  simp only [List.zipIdx_cons, zbj]
  refine ⟨by rw [ih.1]; simp, fun q => ?_⟩
  rw [ih.2 q, Array.getElem?_setIfInBounds]
  by_cases hq : off + (s + 1) ≤ q ∧ q < off + (s + 1) + l.length
  ·rw [if_pos hq, if_pos (by simp; omega), show q - (off + s) = (q - (off + (s + 1))) + 1 by omega]
   rfl
  ·rw [if_neg hq]
   by_cases ho : off + s = q
   ·subst ho
    rw [if_pos rfl, if_pos (by omega), if_pos (by simp), zbe]
    rfl
   ·rw [if_neg ho, if_neg (by simp; omega)]
theorem Rl {w0 : World} {φ : Ee} {tm : Tm} {a : Act} (htm : TR w0 φ tm a) (place : Nat → Option (Nat × Nat)) (place' : Nat → Option (Nat × Nat)) (hpl : ∀ f q, place f = some q → place' f = some q) :
  ∀ (parts : List (Nat × Operand)) (l : List (Nat × Nat × AV)) (cells cs : List AV) (arr : Array Value), O0 (ev tm) place parts = some l → Ji cells l = some cs → arr.size = cells.length → VRs w0 φ cells (fun q => arr[q]?) →
   ∃ arr', Instr.fill place' arr (parts.map fun (i, x) => (i, a.eval x)) = some arr' ∧ arr'.size = cs.length ∧ cs.length = cells.length ∧ VRs w0 φ cs (fun q => arr'[q]?)
 | [], l, cells, cs, arr, h1, h2, h3, h4 => by
  simp only [O0, Option.some.injEq] at h1
  subst h1
  simp only [Ji, Option.some.injEq] at h2
  subst h2
  exact ⟨arr, rfl, h3, rfl, h4⟩
 | (f, x) :: parts, l, cells, cs, arr, h1, h2, h3, h4 => by
  simp only [O0] at h1
  split at h1
  ·rename_i off n l' hp hl
   cases h1
   simp only [Ji, zab] at h2
   obtain ⟨vs, hvs, h2⟩ := h2
   split at h2
   ·rename_i hn
    split at h2
    ·rename_i hle
     obtain ⟨g1, g2, g3⟩ := R4 (Dz htm x) hvs
     have hsz : (a.eval x).cells.size = n := by rw [← hn, ← g1]; simp
     obtain ⟨s1, s2⟩ := AbI off (a.eval x).cells.toList 0 arr (by simp [hsz]; omega)
     have hlen : (Fh cells off vs).length = cells.length := Ya (by omega)
     have hv : VRs w0 φ (Fh cells off vs) (fun q => (((a.eval x).cells.toList.zipIdx 0).foldl (fun cs (c, j) => cs.setIfInBounds (off + j) c) arr)[q]?) := by
      rw [Df] at h4 g2 ⊢
      intro q y hq
      rw [X9 (by omega)] at hq
      rw [s2 q]
      simp only [zaR, Array.length_toList, hsz]
      split at hq
      ·rename_i hc
       rw [if_pos (by omega)]
       exact g2 _ y hq
      ·rename_i hc
       rw [if_neg (by omega)]
       exact h4 q y hq
     obtain ⟨arr', e1, e2, e3, e4⟩ := Rl htm place place' hpl parts l' _ cs _ hl h2 (by rw [s1, h3, hlen]) hv
     refine ⟨arr', ?_, e2, by rw [e3, hlen], e4⟩
     simp only [zat, Instr.fill, hpl f _ hp, hsz]
     rw [if_neg (by simp; omega)]
     rw [← e1]
     congr 1
     rw [← Array.foldl_toList, Array.toList_zipIdx]
    ·cases h2
   ·cases h2
  ·cases h1
theorem AaQ {T : Nat → Option TI} (hT : J8 P T) {t : TypeId} {i : TI} (ht : TOk P t i) (hagg : i.isAgg = true) {w0 : World} {φ : Ee} {tm : Tm} {a : Act} (htm : TR w0 φ tm a) {parts : Array (Nat × Operand)} {l : List (Nat × Nat × AV)} {cs : List AV}
  (hp : O0 (ev tm) (fun f => match i.fields[f]? with | some (o, ft) => (match T ft with | some j => some (o, j.size) | none => none) | none => none) parts.toList = some l) (hf : Ji (Hu i) l = some cs) :
  ∃ u, VR w0 φ (.agg cs) u ∧ ∀ w, (Instr.build t (parts.map fun (i, x) => (i, a.eval x))).run P w = .ok u w := by
 obtain ⟨d, hu, hd⟩ := ht.desc
 cases d <;> simp [Gg, hagg] at hd
 rename_i fs
 have hfl : i.fields = fs.toList.map fun f => (f.offset, f.type) := hd.1.1.2
 obtain ⟨inf, hi, e1, e2, z, hz1, hz2⟩ := ht.info
 have hpl : ∀ (l : List Field), (∀ f ∈ l, ∃ inf, P.info? f.type = some inf) → ∃ places, l.mapM (fun f => (P.info? f.type).map fun i => (f.offset, i.size)) = some places ∧ ∀ q : Nat, places[q]? = (l[q]?).bind fun f => (P.info? f.type).map fun i => (f.offset, i.size) := by
  intro l
  induction l with
  | nil => intro _; exact ⟨[], rfl, fun q => by simp⟩
  | cons f l ih =>
   intro h
   obtain ⟨ps, g1, g2⟩ := ih fun f hf => h f (zav _ hf)
   obtain ⟨inf, hf⟩ := h f za1
   refine ⟨(f.offset, inf.size) :: ps, by simp [zaI, hf, g1], fun q => ?_⟩
   cases q with
   | zero => simp [hf]
   | succ q => simpa using g2 q
 obtain ⟨places, p1, p2⟩ := hpl fs.toList fun f hf => ht.flds (f.offset, f.type) (by rw [hfl]; exact zbS.2 ⟨f, hf, rfl⟩)
 have hzs : z.cells.size = (Hu i).length := by rw [← Array.length_toList, hz2]; simp [Hu]
 obtain ⟨arr', g1, g2, g3, g4⟩ := Rl htm _ (fun q => places[q]?) (by
  intro f q hq
  split at hq
  ·rename_i o ft hft
   split at hq
   ·rename_i j hj
    cases hq
    rw [p2 f]
    rw [hfl, zaY] at hft
    obtain ⟨fd, h1, h2⟩ := zaM.1 hft
    cases h2
    obtain ⟨inf', hi', e1', _⟩ := (hT _ _ hj).info
    simp [h1, hi', e1']
   ·cases hq
  ·cases hq) parts.toList l (Hu i) cs z.cells hp hf hzs (T8 w0 φ i hz2)
 refine ⟨.agg arr', ?_, fun w => ?_⟩
 ·rw [VR]
  exact ⟨arr'.toList, by simp, by simpa using g2, by simpa using g4⟩
 ·refine run_build w t _ arr' ?_
  simp only [Program.built, hi, hu, hz1, p1]
  simpa using g1
theorem Yr {t : TypeId} {i j : TI} (ht : TOk P t i) (hs : i.sl = true) (hj : TOk P i.elem j) {w0 : World} {φ : Ee} {w : World} {H : Ab} (hr : HR w0 φ w H) {tm : Tm} {a : Act} (htm : TR w0 φ tm a) {n : Nat} (hn : (n + 1) * j.size ≤ 16777216)
  {parts : Array (Nat × Operand)} {l : List (Nat × Nat × AV)} {cs : List AV} (hp : O0 (ev tm) (fun f => some (f * j.size, j.size)) parts.toList = some l) (hf : Ji ((zak (n + 1) (Hu j)).flatten) l = some cs)
  {k : KO β} {r : β} (h : G5 (n + 1) j.size cs true H k = some r) : T9 w0 φ w H k r fun u w' => (Instr.buildSlice t (n + 1) (parts.map fun (i, x) => (i, a.eval x))).run P w = .ok u w' := by
 obtain ⟨inf, hi, e1, e2, z, hz1, hz2⟩ := hj.info
 obtain ⟨m1, m2⟩ := Xa w0 φ hz2 hj.zsz hj.spos (n + 1)
 obtain ⟨arr', g1, g2, g3, g4⟩ := Rl htm _ (fun f => some (f * j.size, j.size)) (fun _ _ h => h) parts.toList l _ cs (madeCells z.cells ((n + 1) * j.size)) hp hf (by rw [size_madeCells, m2]) m1
 have hrun := run_buildSlice (P := P) w t i.elem (n + 1) (parts.map fun (i, x) => (i, a.eval x)) arr' inf z (Fn ht hs) hi hz1 (by rw [e1]; have : (2 : Nat) ^ 24 = 16777216 := (by decide); omega)
  (by rw [e1]; exact Nat.ne_of_gt (Nat.mul_pos (Nat.succ_pos n) hj.spos)) (by rw [e1]; simpa [madeCells] using g1)
 obtain ⟨a1, a2⟩ := hr.alloc (Ft w (.cells arr' i.elem)) (b := w.heap.size) (o := 0) (k := ⟨cs, true, true⟩) (zao _) (Nk w _)
  (by simp [g2]) (fun _ => rfl) (.inl rfl) (by simpa using g4)
 refine ⟨_, _, _, _, _, h, Jf hr.fresh, a1, Ft w _, ?_, hrun⟩
 rw [VR]
 refine .inr ⟨_, _, _, Fj _ _ _, .inr ⟨_, zao _, rfl, ?_⟩⟩
 rw [g2, g3, m2]
 omega
theorem Vv {t : TypeId} {i j : TI} (ht : TOk P t i) (hs : i.sl = true) (hj : TOk P i.elem j) {w0 : World} {φ : Ee} {w : World} {H : Ab} (hr : HR w0 φ w H) {parts : Array (Nat × Value)} (hp : parts.toList = [])
  {k : KO β} {r : β} (h : k .nl H = some r) : T9 w0 φ w H k r fun u w' => (Instr.buildSlice t 0 parts).run P w = .ok u w' := by
 have hun := fun w => run_underlying (Fn ht hs) w
 have hbel := Ft w (.cells #[] i.elem)
 refine ⟨.nl, .slice (some ⟨w.heap.size, 0, none⟩) 0 0, φ, H, w.alloc (.cells #[] i.elem), h, PLe.refl _, ?_, hbel, ?_, ?_⟩
 ·exact hr.later hbel
 ·rw [VR]; exact ⟨_, rfl⟩
 ·have hp' : parts = #[] := by apply zbk; simpa using hp
  subst hp'
  simp [Instr.buildSlice, hun, hj.rSize, Instr.fill, newRow, Array.range_zero']
end
section
open Go Go.RowKit
variable {P : Program} {β : Type}
def Je (ti : Nat → Option TI) : Op → Bool
 | .move _ | .assign _ | .pick _ _ _ | .build _ _ | .load _ _ | .nilCheck _ | .binOp _ _ _ _ _ | .unOp _ _ _ | .fieldAddr _ _ _ | .field _ _ _ | .indexAddr _ _ _ | .index _ _ _ | .slice _ _ _ _ _ | .makeFunc _ _ _ | .extract _ _ => true
 | .convert s d _ =>
  match ti s, ti d with
  | some i, some j => !(i.isStr && j.sl)
  | _, _ => false
 | .call c =>
  match c.callee with
  | .builtin .len => true
  | _ => false
 | _ => false
def Xy (ti : Nat → Option TI) : Op → Bool
 | .load _ _ => false
 | .convert s d x =>
  match ti s, ti d with
  | some i, some j => !(i.isStr && j.sl) && !(j.isStr && i.sl)
  | _, _ => false
 | op => Je ti op
def AkB (ti : Nat → Option TI) : Op → Bool
 | .index t _ _ => match ti t with | some i => i.isStr | none => false
 | _ => true
theorem AaX {t : TypeId} {i : TI} (ht : TOk P t i) (h1 : i.ik = none) (h2 : i.isStr = true) : i.sl = false := by
 obtain ⟨d, g1, g2⟩ := ht.desc
 cases d <;> simp [Gg, h1, h2] at g2
 exact g2.2
theorem K0 (ρ : Operand → Value) (c : Call) (ty : TypeId) (b : Builtin) (h : c.callee = .builtin b) (w : World) :
  (resolve ρ c ty).run P w = .ok { target := .builtin b c.argTypes ty (c.args.map fun | .const _ => true | _ => false), args := c.args.map ρ } w := by
 simp only [resolve, h, Sem.run_pure]
 rfl
theorem Up {E : O9} (hT : J8 P E.ti) (cal : Cal) {o : Oper} (hq : Je E.ti o.op = true) (hx : AkB E.ti o.op = true) {w0 : World} {φ : Ee} {w : World} {H : Ab} (hr : HR w0 φ w H) {tm : Tm} {a : Act} (htm : TR w0 φ tm a)
  {k : KO β} {r : β} (h : Jq E.ti (El E cal β) o.op o.type tm H k = some r) :
  ∃ v u, k v H = some r ∧ VR w0 φ v u ∧ (∀ w', Below w.heap.size w w' → (execOp a.eval o).run P w' = .ok (.value u) w') ∧ (Xy E.ti o.op = true → ∀ w', (execOp a.eval o).run P w' = .ok (.value u) w') := by
 have both : ∀ {v : AV} {u : Value}, k v H = some r → VR w0 φ v u → (∀ w', (execOp a.eval o).run P w' = .ok (.value u) w') →
   ∃ v u, k v H = some r ∧ VR w0 φ v u ∧ (∀ w', Below w.heap.size w w' → (execOp a.eval o).run P w' = .ok (.value u) w') ∧ (Xy E.ti o.op = true → ∀ w', (execOp a.eval o).run P w' = .ok (.value u) w') :=
  fun h1 h2 h3 => ⟨_, _, h1, h2, fun w' _ => h3 w', fun _ => h3⟩
 have fin : ∀ {s : Sem Value}, execOp a.eval o = (do pure (.value (← s))) → (Got w0 φ (fun v => k v H) r fun u => ∀ w, s.run P w = .ok u w) →
   ∃ v u, k v H = some r ∧ VR w0 φ v u ∧ (∀ w', Below w.heap.size w w' → (execOp a.eval o).run P w' = .ok (.value u) w') ∧ (Xy E.ti o.op = true → ∀ w', (execOp a.eval o).run P w' = .ok (.value u) w') := by
  intro s he ⟨v, u, h1, h2, h3⟩
  refine both h1 h2 fun w' => ?_
  rw [he]
  simp only [Sem.run_bind, h3 w', Result.andThen_ok, Sem.run_pure]
 have finL : ∀ {s : Sem Value}, Xy E.ti o.op = false → execOp a.eval o = (do pure (.value (← s))) → (∃ v u, k v H = some r ∧ VR w0 φ v u ∧ ∀ w', Below w.heap.size w w' → s.run P w' = .ok u w') →
   ∃ v u, k v H = some r ∧ VR w0 φ v u ∧ (∀ w', Below w.heap.size w w' → (execOp a.eval o).run P w' = .ok (.value u) w') ∧ (Xy E.ti o.op = true → ∀ w', (execOp a.eval o).run P w' = .ok (.value u) w') := by
  intro s hpu he ⟨v, u, h1, h2, h3⟩
  refine ⟨v, u, h1, h2, fun w' hw => ?_, fun h => by rw [hpu] at h; cases h⟩
  rw [he]
  simp only [Sem.run_bind, h3 w' hw, Result.andThen_ok, Sem.run_pure]
 obtain ⟨dst, op, ty, pos, after, guard⟩ := o
 simp only at hq hx h
 cases op <;> simp only [Je, zaa] at hq <;> simp only [Jq, El] at h
 case move x => exact both h (Dz htm x) fun w' => by simp only [execOp, Sem.run_pure]
 case assign x => exact both h (Dz htm x) fun w' => by simp only [execOp, Sem.run_pure]
 case pick c x y =>
  obtain ⟨b, hb, v, u, h1, h2, rfl⟩ := AcQ (Dz htm c) (Dz htm x) (Dz htm y) h
  exact both h1 h2 fun w' => by simp only [execOp, hb, asBool, Sem.run_bind, Sem.run_pure, Result.andThen_ok]
 case build t parts =>
  split at h
  ·rename_i i hi
   split at h
   ·rename_i l hagg hp
    obtain ⟨cs, hcs, h⟩ := zab.1 h
    obtain ⟨u, g1, g2⟩ := AaQ hT (hT _ _ hi) hagg htm hp hcs
    exact fin rfl ⟨_, u, h, g1, g2⟩
   ·cases h
  ·cases h
 case load t x =>
  split at h
  ·rename_i i hi
   exact finL rfl rfl (W9 (hT _ _ hi) hr (Dz htm x) h)
  ·cases h
 case nilCheck x =>
  have hv := Dz htm x
  generalize ev tm x = v at h hv
  cases v <;> simp only [Ai7] at h <;> try cases h
  ·refine both h hv fun w' => ?_
   rw [VR] at hv
   obtain ⟨b, o, sz, _, hv⟩ := hv
   simp only [execOp, hv, Sem.run_pure]
  ·refine both h hv fun w' => ?_
   rw [VR] at hv
   obtain ⟨b, o, hv, _⟩ := hv
   simp only [execOp, hv, Sem.run_pure]
  ·refine both h hv fun w' => ?_
   rw [VR] at hv
   obtain ⟨xs, ys, hv, _⟩ := hv
   simp only [execOp, hv, Sem.run_pure]
 case binOp op t x y c =>
  split at h
  ·rename_i i hi
   split at h
   ·rename_i hb
    exact fin rfl (Acc (hT _ _ hi) hb x y (w := w) (Dz htm x) (Dz htm y) h)
   ·split at h
    ·rename_i hq
     split at h
     ·rename_i qs hk
      exact fin rfl (Acb hT (hT _ _ hi) hq hk x y (w := w) (Dz htm x) (Dz htm y) h)
     ·cases h
    ·exact fin rfl (Aeg t x y (w := w) (Dz htm x) (Dz htm y) h)
  ·cases h
 case unOp op t x => exact fin rfl (AiV (w := w) (Dz htm x) h)
 case convert s d x =>
  split at h
  ·rename_i i j hi hj
   split at h
   ·rename_i kd hk
    exact fin rfl (Ael (w := w) (hT _ _ hi) (hT _ _ hj) hk (Dz htm x) h)
   ·rename_i hk
    split at h
    ·rename_i h1 h2
     exact fin rfl (Acl (w := w) (hT _ _ hi) (hT _ _ hj) h2 (Dz htm x) h)
    ·rename_i h1 h2
     split at h
     ·rename_i e hs he
      split at h
      ·rename_i hu
       exact finL (by simp [Xy, hi, hj, h2, hs]) rfl (Acj (hT _ _ hi) (hT _ _ hj) hs h2 (hT _ _ he) hu hr (Dz htm x) h)
      ·cases h
     ·cases h
    ·rename_i h1 h2
     split at h
     ·rename_i e hs he
      rw [hi, hj] at hq
      simp [h1, hs] at hq
     ·cases h
    ·cases h
  ·cases h
 case fieldAddr t x f =>
  split at h
  ·rename_i i hi
   split at h
   ·rename_i o ft hagg hf
    split at h
    ·rename_i j hj
     split at h
     ·cases h
     ·rename_i n hn
      obtain ⟨v, u, h1, h2, h3⟩ := Ac8 (hT _ _ hi) hagg hf (hT _ _ hj) (by rw [hn]; exact Nat.succ_ne_zero n) hr (Dz htm x) h
      exact fin rfl ⟨v, u, h1, h2, h3⟩
    ·cases h
   ·cases h
  ·cases h
 case field t x f =>
  split at h
  ·rename_i i hi
   split at h
   ·rename_i o ft hagg hf
    split at h
    ·rename_i j hj
     exact fin rfl (Afy (hT _ _ hi) hagg hf (hT _ _ hj) (Dz htm x) h)
    ·cases h
   ·cases h
  ·cases h
 case indexAddr t x y =>
  split at h
  ·rename_i i hi
   split at h
   ·rename_i j hs hj
    exact fin rfl (AcD (w := w) (hT _ _ hi) hs (hT _ _ hj) (Dz htm x) (Dz htm y) h)
   ·cases h
  ·cases h
 case index t x y =>
  simp only [AkB] at hx
  split at hx
  ·rename_i i hi
   exact fin rfl (Af0 (w := w) t (hT _ _ hi) hx (Dz htm x) (Dz htm y) h)
  ·cases hx
 case slice t x lo hi mx =>
  split at h
  ·cases h
  ·split at h
   ·rename_i i hi'
    split at h
    ·rename_i hs
     exact fin rfl (Aa8 (w := w) (hT _ _ hi') hs htm (Dz htm x) h)
    ·split at h
     ·rename_i j hs hj
      exact fin rfl (AbJ (w := w) (hT _ _ hi') hs (hT _ _ hj) htm (Dz htm x) h)
     ·cases h
   ·cases h
 case makeFunc f first cap =>
  split at h
  ·rename_i g
   have key : ∀ l : List Operand, VRs w0 φ (l.map (ev tm)) (fun q => (l.map a.eval)[q]?) := by
    intro l
    rw [Df]
    intro q y hq
    rw [zaY] at hq
    obtain ⟨x, hx, rfl⟩ := zaM.1 hq
    exact ⟨_, by rw [zaY, hx]; rfl, Dz htm x⟩
   refine both (u := .func (.func g) (first.map a.eval) (cap.map a.eval)) h ?_ fun w' => by simp only [execOp, Instr.makeFunc, Sem.run_bind, Sem.run_pure, Result.andThen_ok]
   rw [VR]
   have hA : ∀ xs : Array Operand, (xs.toList.map a.eval).toArray = xs.map a.eval := fun xs => by
    apply zbk
    simp
   exact ⟨first.toList.map a.eval, cap.toList.map a.eval, by rw [hA, hA], by simp, by simp, key _, key _⟩
  ·cases h
 case extract x i => exact fin rfl (Acq (Dz htm x) h)
 case call c =>
  split at hq
  ·rename_i hc
   rw [hc] at h
   simp only at h
   split at h
   ·rename_i x t hb hxs hts
    have hargs : c.args = #[x] := by apply zbk; simpa using hxs
    have htys : c.argTypes = #[t] := by apply zbk; simpa using hts
    have he : ∀ s : Sem Value, s = Builtin.len_ #[t] ty #[a.eval x] → ∀ w', (execOp a.eval ⟨dst, .call c, ty, pos, after, guard⟩).run P w' = ((do pure (.value (← s)) : Sem Next)).run P w' := by
     intro s hs w'
     have hm : (#[x] : Array Operand).map a.eval = #[a.eval x] := by simp
     simp only [execOp, Sem.run_bind, K0 a.eval c ty .len hc, Result.andThen_ok, invoke, builtin, hargs, htys, hs, hm]
    split at h
    ·rename_i i hi
     split at h
     ·rename_i hs
      obtain ⟨v, u, h1, h2, h3⟩ := AcH (w := w) (hT _ _ hi) hs (Dz htm x) ty h
      exact both h1 h2 fun w' => by rw [he _ rfl w']; simp only [Sem.run_bind, h3 w', Result.andThen_ok, Sem.run_pure]
     ·rename_i h0 hs
      obtain ⟨v, u, h1, h2, h3⟩ := Af3 (w := w) (hT _ _ hi) hs (Dz htm x) ty h
      exact both h1 h2 fun w' => by rw [he _ rfl w']; simp only [Sem.run_bind, h3 w', Result.andThen_ok, Sem.run_pure]
     ·cases h
    ·cases h
   ·rename_i hb _ _
    cases hb
   ·rename_i hb _ _
    cases hb
   ·cases h
  ·cases hq
end
section
open Go Go.RowKit
variable {P : Program} {β : Type}
def CX (P : Program) (f : FuncId) (us : Array Value) (w : World) (R : Value → World → Prop) : Prop :=
 (∃ u w', (callFunc f us).run P w = .ok (.value u) w' ∧ R u w') ∨ ((callFunc f us).run P w = .ok (.enter f us) w ∧ Calls P f us w fun e w' => ∃ u, e = .returned u ∧ R u w')
theorem CX.mono {f : FuncId} {us : Array Value} {w : World} {R R' : Value → World → Prop} (h : CX P f us w R) (hr : ∀ u w', R u w' → R' u w') : CX P f us w R' := by
 rcases h with ⟨u, w', h1, h2⟩ | ⟨h1, h2⟩
 ·exact .inl ⟨u, w', h1, hr _ _ h2⟩
 ·exact .inr ⟨h1, h2.mono fun e w' ⟨u, h3, h4⟩ => ⟨u, h3, hr _ _ h4⟩⟩
def Left (w0 : World) (φ : Ee) (k : KO β) (r : β) (u : Value) (w' : World) : Prop :=
 ∃ v φ' H', k v H' = some r ∧ PLe φ φ' ∧ HR w0 φ' w' H' ∧ VR w0 φ' v u
def Aga (E : O9) (f : FuncId) : Bool := (E.ext f).isSome || !E.hm f
def N8 (P : Program) (E : O9) (cal : Cal) (w0 : World) : Prop :=
 ∀ (β : Type) (ty : Nat) (f : FuncId) (args : List AV) (H : Ab) (k : KO β) (r : β) (φ : Ee) (w : World) (us : List Value), Ms E cal ty f args H k = some r → HR w0 φ w H → us.length = args.length →
  VRs w0 φ args (fun j => us[j]?) → CX P f us.toArray w fun u w' => Left w0 φ k r u w' ∧ (Aga E f = true → Below w.heap.size w w')
def Od (E : O9) : Op → Bool
 | .alloc _ | .box _ _ | .buildSlice _ _ _ | .makeSlice _ _ _ | .convert _ _ _ => true
 | .call c =>
  match c.callee with
  | .value (.func f) => Aga E f
  | _ => false
 | _ => false
theorem Ajj {w0 : World} {φ : Ee} {tm : Tm} {a : Act} (htm : TR w0 φ tm a) (l : List Operand) : VRs w0 φ (l.map (ev tm)) (fun q => (l.map a.eval)[q]?) := by
 rw [Df]
 intro q y hq
 rw [zaY] at hq
 obtain ⟨x, hx, rfl⟩ := zaM.1 hq
 exact ⟨_, by rw [zaY, hx]; rfl, Dz htm x⟩
theorem Adh {w0 : World} {φ : Ee} {xs ys : List AV} {us vs : List Value} (hl : us.length = xs.length) (h1 : VRs w0 φ xs (fun j => us[j]?)) (h2 : VRs w0 φ ys (fun j => vs[j]?)) : VRs w0 φ (xs ++ ys) (fun j => (us ++ vs)[j]?) := by
 rw [Df] at *
 intro q y hq
 by_cases hlt : q < xs.length
 ·rw [zal hlt] at hq
  rw [zal (by omega)]
  exact h1 q y hq
 ·rw [zaj (by omega)] at hq
  rw [zaj (by omega), hl]
  exact h2 _ y hq
def Ran (P : Program) (o : Oper) (a : Act) (w : World) (R : Value → World → Prop) : Prop := ∀ (K : Act → World → Prop) (Q : Exit → Act → World → Prop), (∀ u w', R u w' → K (a.put o.dst u) w') → o.wp P a w K Q
theorem Ran.of_value {o : Oper} {a : Act} {w : World} {R : Value → World → Prop} {u : Value} {w' : World} (h : (execOp a.eval o).run P w = .ok (.value u) w') (hr : R u w') : Ran P o a w R := by
 intro K Q hK
 unfold Oper.wp
 rw [h]
 exact hK _ _ hr
theorem Ran.of_skip {o : Oper} {a : Act} {w : World} {R : Value → World → Prop} {w' : World} (h : (execOp a.eval o).run P w = .ok .skip w') (hr : R undef w') : Ran P o a w R := by
 intro K Q hK
 unfold Oper.wp
 rw [h]
 exact hK _ _ hr
theorem Ran.of_sem {o : Oper} {a : Act} {w : World} {R : Value → World → Prop} {s : Sem Value} (he : (execOp a.eval o).run P w = (do pure (.value (← s)) : Sem Next).run P w) {u : Value} {w' : World} (h : s.run P w = .ok u w') (hr : R u w') : Ran P o a w R :=
 Ran.of_value (by rw [he]; simp only [Sem.run_bind, h, Result.andThen_ok, Sem.run_pure]) hr
def Ajg (E : O9) (o : Oper) (tm : Tm) : Prop := Od E o.op = true ∨ Je E.ti o.op = true ∨ ∃ all x, Z4 all o = some x ∧ AoS (ev tm x) = true
theorem Ab6 {E : O9} (hT : J8 P E.ti) {cal : Cal} {w0 : World} (hc : N8 P E cal w0) {o : Oper} (hx : AkB E.ti o.op = true) (hsz : ∀ t i, E.ti t = some i → i.ik = some .u8 → i.size = 1) {φ : Ee} {w : World} {H : Ab} (hr : HR w0 φ w H) {tm : Tm} {a : Act} (htm : TR w0 φ tm a)
  {k : KO β} {r : β} (h : Jq E.ti (El E cal β) o.op o.type tm H k = some r) :
  Ran P o a w fun u w' => Left w0 φ k r u w' ∧ (Ajg E o tm → Below w.heap.size w w') := by
 by_cases hq : Je E.ti o.op = true
 ·obtain ⟨v, u, h1, h2, h3, _⟩ := Up hT cal hq hx hr htm h
  exact Ran.of_value (h3 w (Below.refl _ _)) ⟨⟨v, φ, H, h1, PLe.refl _, hr, h2⟩, fun _ => Below.refl _ _⟩
 have ofB : ∀ {s : Sem Value}, (execOp a.eval o).run P w = (do pure (.value (← s)) : Sem Next).run P w → T9 w0 φ w H k r (fun u w' => s.run P w = .ok u w') →
   Ran P o a w fun u w' => Left w0 φ k r u w' ∧ (Ajg E o tm → Below w.heap.size w w') := by
  intro s he ⟨v, u, φ', H', w', h1, h2, h3, h4, h5, h6⟩
  exact Ran.of_sem he h6 ⟨⟨v, φ', H', h1, h2, h3, h5⟩, fun _ => h4⟩
 obtain ⟨dst, op, ty, pos, after, guard⟩ := o
 simp only at hq hx h
 cases op <;> simp only [Je, not_true_eq_false] at hq <;> simp only [Jq, El] at h
 case alloc t =>
  split at h
  ·rename_i i hi
   exact ofB rfl (AaK (hT _ _ hi) hr h)
  ·cases h
 case box t x => exact ofB rfl (Aeh t hr (Dz htm x) h)
 case buildSlice t n parts =>
  split at h
  ·rename_i i hi
   split at h
   ·rename_i j hs hj
    split at h
    ·rename_i hp
     refine ofB rfl (Vv (hT _ _ hi) hs (hT _ _ hj) hr ?_ h)
     have : parts.toList = [] := by
      cases hl : parts.toList with
      | nil => rfl
      | cons q l =>
       obtain ⟨f, x⟩ := q
       rw [hl] at hp
       simp only [O0] at hp
       split at hp <;> cases hp
     simp [this]
    ·rename_i m l hp
     split at h
     ·rename_i hle
      obtain ⟨cs, hcs, h⟩ := zab.1 h
      exact ofB rfl (Yr (hT _ _ hi) hs (hT _ _ hj) hr htm (Cr hle) hp hcs h)
     ·cases h
    ·cases h
   ·cases h
  ·cases h
 case store t x y =>
  split at h
  ·rename_i i hi
   obtain ⟨H', w', h1, h2, h3, h4⟩ := AbN (hT _ _ hi) hr (Dz htm x) (Dz htm y) h
   refine Ran.of_skip (w' := w') ?_ ⟨⟨_, φ, H', h1, PLe.refl _, h2, Gk _ _ _⟩, ?_⟩
   ·simp only [execOp, Sem.run_bind, h4, Result.andThen_ok, Sem.run_pure]
   ·rintro (h | h | ⟨all, x, h, _⟩) <;> cases h
  ·cases h
 case convert s d x =>
  split at h
  ·rename_i i j hi hj
   rw [hi, hj] at hq
   split at h
   ·rename_i kd hk
    obtain ⟨d1, g1, g2⟩ := (hT _ _ hj).desc
    exact absurd (by cases d1 <;> simp [Gg, hk] at g2 ; simp [g2.1.1.2]) hq
   ·rename_i hk
    split at h
    ·rename_i h1 h2
     exact absurd (by simp [AaX (hT _ _ hj) hk h2]) hq
    ·rename_i h1 h2
     exact absurd (by simp [h1]) hq
    ·rename_i h1 h2
     split at h
     ·rename_i e hs he
      split at h
      ·rename_i hu
       exact ofB rfl (Ack (hT _ _ hi) (hT _ _ hj) h1 hs (hT _ _ he) hu hr (Dz htm x) h)
      ·cases h
     ·cases h
    ·cases h
  ·cases h
 case makeSlice t x y =>
  split at h
  ·rename_i i hi
   split at h
   ·rename_i j hs hj
    exact ofB rfl (AcL (hT _ _ hi) hs (hT _ _ hj) hr (Dz htm x) (Dz htm y) h)
   ·cases h
  ·cases h
 case call c =>
  split at h
  ·rename_i f hf
   have hv := Dz htm f
   unfold Amb at h
   split at h
   ·rename_i g first cap hg
    rw [hg, VR] at hv
    obtain ⟨xs, ys, hfv, l1, l2, v1, v2⟩ := hv
    have key := hc β ty g _ H k r φ w (xs ++ c.args.toList.map a.eval ++ ys) h hr (by simp [l1, l2]) (Adh (by simp [l1]) (Adh l1 v1 (Ajj htm _)) v2)
    have hrun : (execOp a.eval ⟨dst, .call c, ty, pos, after, guard⟩).run P w = (callFunc g (xs ++ c.args.toList.map a.eval ++ ys).toArray).run P w := by
     have e : (xs ++ c.args.toList.map a.eval ++ ys).toArray = xs.toArray ++ c.args.map a.eval ++ ys.toArray := by
      apply zbk
      simp
     rw [e]
     simp only [execOp, resolve, hf, Sem.run_bind, hfv, Deferred.ofValue, Sem.run_pure, Result.andThen_ok, invoke]
    have hcalm : Od E (.call c) = true → Aga E g = true := by
     intro h
     simp only [Od, hf] at h
     cases f <;> simp only at h <;> try cases h
     rename_i g'
     simp only [Act.eval] at hfv
     cases hfv
     exact h
    have hcalm2 : Ajg E ⟨dst, .call c, ty, pos, after, guard⟩ tm → Aga E g = true := by
     rintro (h | h | ⟨all, x, h, _⟩)
     ·exact hcalm h
     ·exact absurd h hq
     ·simp [Z4, hf] at h
    intro K Q hK
    unfold Oper.wp
    rw [hrun]
    rcases key with ⟨u, w', k1, k2, k3⟩ | ⟨k1, k2⟩
    ·rw [k1]
     exact hK u w' ⟨k2, fun hh => k3 (hcalm2 hh)⟩
    ·rw [k1]
     refine k2.mono fun e w' ⟨u, h3, h4, h5⟩ => ?_
     subst h3
     exact hK u w' ⟨h4, fun hh => h5 (hcalm2 hh)⟩
   ·cases h
  ·rename_i b hb
   split at h
   ·exact absurd (by rw [hb]) hq
   ·rename_i x t hxs hts
    have hargs : c.args = #[x] := by apply zbk; simpa using hxs
    have htys : c.argTypes = #[t] := by apply zbk; simpa using hts
    have he : (execOp a.eval ⟨dst, .call c, ty, pos, after, guard⟩).run P w = ((do pure (.value (← Builtin.clear_ #[t] ty #[a.eval x])) : Sem Next)).run P w := by
     have hm : (#[x] : Array Operand).map a.eval = #[a.eval x] := by simp
     simp only [execOp, Sem.run_bind, K0 a.eval c ty .clear hb, Result.andThen_ok, invoke, builtin, hargs, htys, hm]
    split at h
    ·rename_i i hi
     split at h
     ·rename_i j hs hj
      obtain ⟨H', w', g1, g2, g3, g4⟩ := AaU (ty := ty) (hT _ _ hi) hs (hT _ _ hj) hr (Dz htm x) h
      refine Ran.of_sem he g4 ⟨⟨_, φ, H', g1, PLe.refl _, g2, Gk _ _ _⟩, ?_⟩
      rintro (hh | hh | ⟨all, z, hh, hz⟩)
      ·simp [Od, hb] at hh
      ·simp [Je, hb] at hh
      ·simp [Z4, hb] at hh
     ·cases h
    ·cases h
   ·rename_i x y t t' hxs hts
    have hargs : c.args = #[x, y] := by apply zbk; simpa using hxs
    have htys : c.argTypes = #[t, t'] := by apply zbk; simpa using hts
    have he : (execOp a.eval ⟨dst, .call c, ty, pos, after, guard⟩).run P w = ((do pure (.value (← Builtin.append_ #[t, t'] ty #[a.eval x, a.eval y])) : Sem Next)).run P w := by
     have hm : (#[x, y] : Array Operand).map a.eval = #[a.eval x, a.eval y] := by simp
     simp only [execOp, Sem.run_bind, K0 a.eval c ty .append hb, Result.andThen_ok, invoke, builtin, hargs, htys, hm]
    have hnl : ∀ {w' : World}, (ev tm x = .nl → Below w.heap.size w w') → Ajg E ⟨dst, .call c, ty, pos, after, guard⟩ tm → Below w.heap.size w w' := by
     intro w' hw hh
     rcases hh with hh | hh | ⟨all, z, hh, hz⟩
     ·simp [Od, hb] at hh
     ·simp [Je, hb] at hh
     ·have e : z = x := by
       simp only [Z4, hb, hxs] at hh
       split at hh
       ·rename_i tt l htt
        split at hh
        ·cases hh
         cases htt
         rfl
        ·cases hh
       ·cases hh
      subst e
      apply hw
      cases hev : ev tm z <;> rw [hev] at hz <;> first | rfl | cases hz
    split at h
    ·rename_i i i' hi hi'
     split at h
     ·cases h
     ·split at h
      ·rename_i j hs hj
       split at h
       ·rename_i hs'
        split at h
        ·rename_i hu
         obtain ⟨v, u, φ', H', w', g1, g2, g3, g4, g5, g6, g7⟩ := Aca (ty := ty) (hT _ _ hi) hs (hT _ _ hj) (hT _ _ hi') hs' (hsz _ _ hj hu) hr (Dz htm x) (Dz htm y) h
         exact Ran.of_sem he g6 ⟨⟨v, φ', H', g1, g2, g3, g5⟩, hnl g7⟩
        ·cases h
       ·rename_i hs'
        split at h
        ·obtain ⟨v, u, φ', H', w', g1, g2, g3, g4, g5, g6, g7⟩ := Aed (ty := ty) (hT _ _ hi) hs (hT _ _ hj) (hT _ _ hi') hs' hr (Dz htm x) (Dz htm y) h
         exact Ran.of_sem he g6 ⟨⟨v, φ', H', g1, g2, g3, g5⟩, hnl g7⟩
        ·cases h
       ·cases h
      ·cases h
    ·cases h
   ·cases h
  ·cases h
 all_goals cases h
end
set_option linter.unusedSimpArgs false
section
open Go Go.RowKit
variable {P : Program} {β : Type}
def Mg (ops : Array Oper) (i : Nat) : Nat → Nat → Bool
 | 0, _ => false
 | fuel + 1, d => match ops[d]? with
  | some o => o.after.any fun e => Region.binds .any e && (e.on == i || Mg ops i fuel e.on)
  | none => false
def AoT (ops : Array Oper) (listed : Array Bool) (ds : List Nat) (i : Nat) : Bool := ds.all fun d => listed.getD d true || Mg ops i ops.size d
def Closed (ops : Array Oper) (listed : Array Bool) : Prop := ∀ j oj, ops[j]? = some oj → listed.getD j false = true → ∀ e ∈ oj.after, Region.binds .any e = true → listed.getD e.on false = true
section
variable {ops : Array Oper} {Q : Exit → Act → World → Prop} {ds : List Nat} {ef : Nat → Option Nat}
theorem Closed.set {listed : Array Bool} {i : Nat} (h : Closed ops listed) (hi : i ∈ Region.ready .any ops listed) : Closed ops (listed.setIfInBounds i true) := by
 obtain ⟨_, oi, hoi, hall⟩ := mem_ready.1 hi
 intro j oj hj hl e he hb
 by_cases hij : i = j
 ·subst hij
  have : oj = oi := Option.some.inj (hj.symm.trans hoi)
  subst this
  exact getD_set_true (hall e he hb)
 ·rw [getD_set_ne false hij] at hl
  exact getD_set_true (h j oj hj hl e he hb)
theorem S0 {listed : Array Bool} {i : Nat} (hc : Closed ops listed) : ∀ (fuel d : Nat), Mg ops i fuel d = true → listed.getD d false = true → listed.getD i false = true
 | 0, _, h, _ => by simp [Mg] at h
 | fuel + 1, d, h, hl => by
  unfold Mg at h
  cases ho : ops[d]? with
  | none => rw [ho] at h; simp at h
  | some o =>
   rw [ho] at h
   obtain ⟨e, he, h1⟩ := Array.any_eq_true'.1 h
   simp only [zag, zaK, beq_iff_eq] at h1
   have hle := hc d o ho hl e he h1.1
   rcases h1.2 with h2 | h2
   ·rw [← h2]; exact hle
   ·exact S0 hc fuel e.on h2 hle
theorem U1 {listed : Array Bool} {i d fuel : Nat} (hc : Closed ops listed) (hr : Mg ops i fuel d = true) (hun : listed.getD i true = false) : d ∉ Region.ready .any ops listed := by
 intro hd
 obtain ⟨_, o, ho, hall⟩ := mem_ready.1 hd
 have hi : listed.getD i false = true := by
  cases fuel with
  | zero => simp [Mg] at hr
  | succ n =>
   unfold Mg at hr
   rw [ho] at hr
   obtain ⟨e, he, h1⟩ := Array.any_eq_true'.1 hr
   simp only [zag, zaK, beq_iff_eq] at h1
   have hle := hall e he h1.1
   rcases h1.2 with h2 | h2
   ·rw [← h2]; exact hle
   ·exact S0 hc n e.on h2 hle
 rcases Nat.lt_or_ge i listed.size with h' | h'
 ·simp [h'] at hun hi
  rw [hun] at hi
  cases hi
 ·simp [zbz h'] at hun
def OnlyB (B : Nat) (w w' : World) : Prop := w.heap.size ≤ w'.heap.size ∧ ∀ b, b < w.heap.size → b ≠ B → w'.heap[b]? = w.heap[b]?
theorem OnlyB.refl (B : Nat) (w : World) : OnlyB B w w := ⟨zao _, fun _ _ _ => rfl⟩
def Ng (P : Program) (ops : Array Oper) (Q : Exit → Act → World → Prop) (ds : List Nat) (ef : Nat → Option Nat) : Nat → Array Bool → Act → World → Prop
 | 0, listed, a, w => Region.ready .any ops listed = [] ∧ Q .normal a w
 | fuel + 1, listed, a, w =>
  (Region.ready .any ops listed = [] → Q .normal a w) ∧
  ∀ i ∈ Region.ready .any ops listed, wpOp P ops Q i (fun a' w' => ((i ∉ ds → Below w.heap.size w w') ∧ ∀ B, ef i = some B → OnlyB B w w') ∧ Ng P ops Q ds ef fuel (listed.setIfInBounds i true) a' w') a w
theorem Ym : ∀ (fuel : Nat) (listed : Array Bool) (a : Act) (w : World), Ng P ops Q ds ef fuel listed a w → wpAny P .any ops Q fuel listed a w
 | 0, _, _, _, h => h
 | fuel + 1, _, _, _, h => ⟨h.1, fun i hi => wpOp_mono (fun a' w' h' => Ym fuel _ a' w' h'.2) (h.2 i hi)⟩
theorem Lr {i : Nat} {oi : Oper} {v : Value} {S : World → Prop} (hS : ∀ w w', S w → Below w.heap.size w w' → S w') (hi : ops[i]? = some oi) (hsel : ∀ (j : Nat) (o : Oper) cs b, ops[j]? = some o → o.op ≠ .select cs b)
  (hQ : ∀ c a w, Q (.panic c) (a.put oi.dst v) w → Q (.panic c) a w) (n : Nat) :
  ∀ (fuel : Nat) (listed : Array Bool) (a : Act) (w : World),
   (∀ j oj, ops[j]? = some oj → j ≠ i → listed.getD j true = false → (∀ e ∈ oj.after, Region.binds .any e = true → e.on ≠ i) → oi.apart ops oj = true) →
   Closed ops listed → (∀ d ∈ ds, listed.getD d true = false → (∀ w, S w) ∨ Mg ops i n d = true ∨ ∃ B, ef d = some B ∧ ∀ w w', S w → OnlyB B w w' → S w') →
   i ∈ Region.ready .any ops listed → YieldsIf P ops S oi v a → S w →
   Ng P ops Q ds ef fuel (listed.setIfInBounds i true) (a.put oi.dst v) w → Ng P ops Q ds ef (fuel + 1) listed a w := by
 intro fuel
 induction fuel with
 | zero =>
  intro listed a w _ _ _ hr hy hs H
  refine ⟨fun h => (by rw [h] at hr; cases hr), fun j hj => ?_⟩
  by_cases hji : j = i
  ·subst hji; exact hy.wpOp hi hs ⟨⟨fun _ => Below.refl _ _, fun B _ => OnlyB.refl B _⟩, H⟩
  ·have := ready_mono hj hji
   rw [H.1] at this
   cases this
 | succ fuel ih =>
  intro listed a w hfree hc hd hr hy hs H
  refine ⟨fun h => (by rw [h] at hr; cases hr), fun j hj => ?_⟩
  by_cases hji : j = i
  ·subst hji; exact hy.wpOp hi hs ⟨⟨fun _ => Below.refl _ _, fun B _ => OnlyB.refl B _⟩, H⟩
  ·have h1 := H.2 j (ready_mono hj hji)
   obtain ⟨hjun, oj, hoj, hall⟩ := mem_ready.1 hj
   have hiun := (mem_ready.1 hr).1
   have hnot : ∀ e ∈ oj.after, Region.binds .any e = true → e.on ≠ i := fun e he hb heq => by
    have h1 := hall e he hb
    rw [heq] at h1
    rcases Nat.lt_or_ge i listed.size with h' | h'
    ·simp [h'] at hiun h1; rw [hiun] at h1; cases h1
    ·simp [zbz h'] at h1
   have hkeep : ∀ w', ((j ∉ ds → Below w.heap.size w w') ∧ ∀ B, ef j = some B → OnlyB B w w') → S w' := fun w' hw => by
    by_cases hjd : j ∈ ds
    ·rcases hd j hjd hjun with h | h | ⟨B, h, h'⟩
     ·exact h w'
     ·exact absurd hj (U1 hc h hiun)
     ·exact h' w w' hs (hw.2 B h)
    ·exact hS w w' hs (hw.1 hjd)
   have h2 := wpOp_putIf hoj (hfree j oj hoj hji hjun hnot) (fun cs b => hsel i oi cs b hi) (fun cs b => hsel j oj cs b hoj) hQ hy h1
   have hfree' : ∀ k ok, ops[k]? = some ok → k ≠ i → (listed.setIfInBounds j true).getD k true = false →
     (∀ e ∈ ok.after, Region.binds .any e = true → e.on ≠ i) → oi.apart ops ok = true := fun k ok hk hki hun hno => by
    refine hfree k ok hk hki ?_ hno
    by_cases hjk : j = k
    ·subst hjk; exact hjun
    ·rw [getD_set_ne true hjk] at hun; exact hun
   have hd' : ∀ d ∈ ds, (listed.setIfInBounds j true).getD d true = false → (∀ w, S w) ∨ Mg ops i n d = true ∨ ∃ B, ef d = some B ∧ ∀ w w', S w → OnlyB B w w' → S w' := fun d hm hun => by
    refine hd d hm ?_
    by_cases hjk : j = d
    ·subst hjk; exact hjun
    ·rw [getD_set_ne true hjk] at hun; exact hun
   refine wpOp_mono (fun a' w' h3 => ⟨h3.2.1, ih (listed.setIfInBounds j true) a' w' hfree' (hc.set hj) hd' (ready_mono hr (Ne.symm hji)) h3.1 (hkeep w' h3.2.1) ?_⟩) h2
   rw [Array.setIfInBounds_comm _ _ hji]
   exact h3.2.2
end
def AaY (E : O9) (ops : Array Oper) : List Nat := (List.range ops.size).filter fun j => match ops[j]? with
 | some o => !(Od E o.op || Je E.ti o.op || (Z4 ops.toList o).isSome)
 | none => false
def O7 (E : O9) (nt : Nat) (o : Oper) : Bool := AkB E.ti o.op && (match o.dst with | some d => d < nt | none => true)
def U2 : List (Nat × Nat) → Nat → Option Nat
 | [], _ => none
 | (d, t) :: r, i => if zbC d i then some t else U2 r i
def AnA : Op → Bool
 | .load _ _ => true
 | _ => false
def AkH : Op → Bool
 | .store _ _ _ => true
 | _ => false
def U0 (ops : Array Oper) (listed : Array Bool) (ex : List Nat) : List Nat := (Region.ready .any ops listed).filter fun z => !ex.contains z
def Ir (E : O9) (ops : Array Oper) (ds : List Nat) (rt : List (Nat × Nat)) : PI → List Nat → Array Bool → Bool
 | .nil, _, listed => (Region.ready .any ops listed).isEmpty
 | .one i l, ex, listed =>
  (match ops[i]? with
  | none => false
  | some o =>
   ((Xy E.ti o.op && Je E.ti o.op || Je E.ti o.op && AoT ops listed ds i) && Region.free .any ops listed i && (Region.ready .any ops listed).contains i) || (U0 ops listed ex == [i] && U2 rt i == none)) &&
  Ir E ops ds rt l [] (listed.setIfInBounds i true)
 | .two i l j m, ex, listed => (U0 ops listed ex == [i, j] || U0 ops listed ex == [j, i]) && l.len == m.len && (U2 rt i == none && U2 rt j == none) && Ir E ops ds rt l [] (listed.setIfInBounds i true) && Ir E ops ds rt m [] (listed.setIfInBounds j true)
 | .alt i l m, ex, listed => (U0 ops listed ex).contains i && l.len + 1 == m.len && U2 rt i == none && Ir E ops ds rt l [] (listed.setIfInBounds i true) && Ir E ops ds rt m (i :: ex) listed
 | .ld i l, _, listed =>
  (match ops[i]? with
  | none => false
  | some o => AnA o.op && (match o.guard with | none => true | some _ => false) && ds.all (fun d => listed.getD d true || Mg ops i ops.size d || (U2 rt d).isSome) && Region.free .any ops listed i && (Region.ready .any ops listed).contains i) &&
  Ir E ops ds rt l [] (listed.setIfInBounds i true)
 | .st i t l, ex, listed =>
  (match ops[i]? with
  | none => false
  | some o => AkH o.op && (match o.guard with | none => true | some _ => false) && U0 ops listed ex == [i] && U2 rt i == some t) &&
  Ir E ops ds rt l [] (listed.setIfInBounds i true)
def Aa7 (E : O9) (nt : Nat) (ops : Array Oper) : Bool := ops.all (O7 E nt)
def rtB (ops : Array Oper) (ts : List Nat) : Bool := ts.all fun t => ops.all fun o => o.dst != some t
def Amc (E : O9) (ops : Array Oper) (l : PI) : Bool := l.len == ops.size && (Region.noSelect ops && (rtB ops l.tsOf && l.rts.all fun p => l.tsOf.contains p.2)) && Ir E ops (AaY E ops) l.rts l [] (zb7 ops.size false)
structure St (w0 : World) (φ : Ee) (tm : Tm) (H : Ab) (nt : Nat) (a : Act) (w : World) : Prop where
 hr : HR w0 φ w H
 tr : TR w0 φ tm a
 size : a.tmps.size = nt
 defers : a.defers = []
theorem Act.put_size (a : Act) (d : Option Tmp) (v : Value) : (a.put d v).tmps.size = a.tmps.size := by
 cases d <;> simp [Act.put]
theorem Act.put_defers' (a : Act) (d : Option Tmp) (v : Value) : (a.put d v).defers = a.defers := by
 cases d <;> rfl
theorem TR.put {w0 : World} {φ φ' : Ee} {tm : Tm} {a : Act} (h : TR w0 φ tm a) (hp : PLe φ φ') {d : Option Tmp} {v : AV} {u : Value} (hv : VR w0 φ' v u) (hd : ∀ t, d = some t → t < a.tmps.size) : TR w0 φ' (Sy tm d v) (a.put d u) := by
 cases d with
 | none => exact fun i => VR.mono hp (h i)
 | some t =>
  have ht := hd t rfl
  intro i
  simp only [Sy, gt, Act.put]
  by_cases hi : t = i
  ·subst hi
   have e : zbC t t = true := Nat.beq_refl t
   simp [e, ht]
   exact hv
  ·have e : zbC t i = false := by
    cases hb : zbC t i
    ·rfl
    ·exact absurd (zaT hb) hi
   simp only [e, zaa, if_false]
   have := VR.mono hp (h i)
   simpa [zb8 hi] using this
theorem St.put {w0 : World} {φ φ' : Ee} {tm : Tm} {H H' : Ab} {nt : Nat} {a : Act} {w w' : World} (h : St w0 φ tm H nt a w) (hp : PLe φ φ') (hr : HR w0 φ' w' H') {d : Option Tmp} {v : AV} {u : Value} (hv : VR w0 φ' v u) (hd : ∀ t, d = some t → t < nt) :
  St w0 φ' (Sy tm d v) H' nt (a.put d u) w' :=
 ⟨hr, h.tr.put hp hv (by rw [h.size]; exact hd), by rw [Act.put_size, h.size], by rw [Act.put_defers', h.defers]⟩
theorem P0 {w0 : World} {φ : Ee} {tm : Tm} {a : Act} (htm : TR w0 φ tm a) {ops : Array Oper} {o : Oper} {H : Ab} {m : (KO β) → Option β} {K : KO β} {r : β} {n : Nat}
  (h : (match o.guard with
   | none => m K
   | some (j, t) =>
    match (ops.toList[j]?).bind (·.dst) with
    | some d => Fg (gt tm d) t H (fun k' => m k') K
    | none => none) = some r) :
  (Region.wanted o (yielded ops a.tmps) = true ∧ m K = some r) ∨ (Region.wanted o (yielded ops a.tmps) = false ∧ K (.sc undef) H = some r) := by
 unfold Region.wanted
 cases hg : o.guard with
 | none =>
  rw [hg] at h
  exact .inl ⟨rfl, h⟩
 | some jt =>
  obtain ⟨j, t⟩ := jt
  rw [hg] at h
  simp only at h
  split at h
  ·rename_i d hd
   have hd' : (ops[j]?).bind (·.dst) = some d := by simpa using hd
   have hv := htm d
   have hy : yielded ops a.tmps j = match a.tmps.getD d undef with | .bool b => some b | _ => none := by
    unfold yielded
    rw [hd']
    simp only [zad, zbE]
    cases a.tmps[d]? with
    | none => rfl
    | some v => cases v <;> rfl
   have skip : (∀ b, a.tmps.getD d undef ≠ .bool b) → (yielded ops a.tmps j == some t) = false := by
    intro hb
    rw [hy]
    split
    ·rename_i b hb'
     exact absurd hb' (hb b)
    ·rfl
   unfold Fg at h
   split at h
   ·rename_i b hb
    rw [hb, VR] at hv
    rw [hv] at hy
    simp only at hy
    split at h
    ·rename_i hbt
     exact .inl ⟨by simp [hy, hbt], h⟩
    ·rename_i hbt
     exact .inr ⟨by simp [hy, hbt], h⟩
   ·cases h
   ·rename_i hn1 hn2
    refine .inr ⟨skip ?_, h⟩
    intro b hb
    rw [hb] at hv
    generalize gt tm d = z at *
    cases z with
    | any => exact hn2 rfl
    | sc v => rw [VR] at hv; subst hv; exact hn1 b rfl
    | nl => rw [VR] at hv; obtain ⟨A, hv⟩ := hv; cases hv
    | ro n c => rw [VR] at hv; obtain ⟨A, c, hv, _⟩ := hv; cases hv
    | sl id off n z => rw [VR] at hv; rcases hv with ⟨_, _, _, A, hv⟩ | ⟨_, _, _, _, ⟨_, A, hv⟩ | ⟨c, _, hv, _⟩⟩ <;> cases hv
    | ptr id off => rw [VR] at hv; obtain ⟨_, _, _, _, hv⟩ := hv; cases hv
    | rp c => rw [VR] at hv; obtain ⟨_, _, hv, _⟩ := hv; cases hv
    | agg c => rw [VR] at hv; obtain ⟨_, hv, _⟩ := hv; cases hv
    | tup c => rw [VR] at hv; obtain ⟨_, hv, _⟩ := hv; cases hv
    | fn f x c => rw [VR] at hv; obtain ⟨_, _, hv, _⟩ := hv; cases hv
  ·cases h
theorem Aaf {E : O9} {cal : Cal} {c : Oper → Tm → Bool} {ops : Array Oper} {o : Oper} {os : List Oper} {tm : Tm} {H : Ab} {K : Tm → Ab → Option β} {r : β}
  (h : Mv E.ti (El E cal β) c ops.toList (o :: os) tm H K = some r) : c o tm = true ∧ (match o.guard with
   | none => Jq E.ti (El E cal β) o.op o.type tm H (fun v H => Mv E.ti (El E cal β) c ops.toList os (Sy tm o.dst v) H K)
   | some (j, t) =>
    match (ops.toList[j]?).bind (·.dst) with
    | some d => Fg (gt tm d) t H (fun k' => Jq E.ti (El E cal β) o.op o.type tm H k') (fun v H => Mv E.ti (El E cal β) c ops.toList os (Sy tm o.dst v) H K)
    | none => none) = some r := by
 simp only [Mv] at h
 split at h
 ·rename_i hc
  exact ⟨hc, h⟩
 ·cases h
def AfM (w0 : World) (φ : Ee) (nt : Nat) (K : Tm → Ab → Option β) (r : β) (a : Act) (w : World) : Prop := ∃ φ' tm H, PLe φ φ' ∧ St w0 φ' tm H nt a w ∧ K tm H = some r
theorem Tt {E : O9} (hT : J8 P E.ti) (hsz : ∀ t i, E.ti t = some i → i.ik = some .u8 → i.size = 1) {cal : Cal} {w0 : World} (hc : N8 P E cal w0) {nt : Nat} {ops : Array Oper} {Q : Exit → Act → World → Prop} {K : Tm → Ab → Option β} {r : β} :
  ∀ (os : List Oper) (φ : Ee) (tm : Tm) (H : Ab) (a : Act) (w : World), (∀ o ∈ os, O7 E nt o = true) → St w0 φ tm H nt a w → Mv E.ti (El E cal β) (fun _ _ => true) ops.toList os tm H K = some r →
   (∀ a w, AfM w0 φ nt K r a w → Q .normal a w) → wpList P ops Q os a w
 | [], φ, tm, H, a, w, _, hs, h, hQ => hQ a w ⟨φ, tm, H, PLe.refl _, hs, h⟩
 | o :: os, φ, tm, H, a, w, hB, hs, h, hQ => by
  obtain ⟨_, h⟩ := Aaf h
  have ho := hB o za1
  simp only [O7, zag] at ho
  have hd : ∀ t, o.dst = some t → t < nt := by
   intro t ht
   have := ho.2
   rw [ht] at this
   simpa using this
  unfold wpList
  rcases P0 (n := nt) hs.tr h with ⟨hw, h⟩ | ⟨hw, h⟩
  ·rw [if_pos hw]
   left
   refine Ab6 hT hc ho.1 hsz hs.hr hs.tr h _ Q fun u w' ⟨⟨v, φ', H', h1, h2, h3, h4⟩, _⟩ => ?_
   exact Tt hT hsz hc os φ' _ H' _ w' (fun o ho => hB o (zav _ ho)) (hs.put h2 h3 h4 hd) h1 fun a w ⟨φ2, tm2, H2, q1, q2, q3⟩ => hQ a w ⟨φ2, tm2, H2, PLe.trans h2 q1, q2, q3⟩
  ·rw [hw]
   exact Tt hT hsz hc os φ _ H _ w (fun o ho => hB o (zav _ ho)) (hs.put (PLe.refl _) hs.hr (Gk _ _ _) hd) h hQ
theorem O3 {E : O9} {cal : Cal} {c : Oper → Tm → Bool} {ops : Array Oper} {o : Oper} {tm : Tm} {H : Ab} {K : Tm → Ab → Option β} {r : β}
  (h : Mh E.ti (El E cal β) c ops.toList o tm H K = some r) : c o tm = true ∧ (match o.guard with
   | none => Jq E.ti (El E cal β) o.op o.type tm H (fun v H => K (Sy tm o.dst v) H)
   | some (j, t) =>
    match (ops.toList[j]?).bind (·.dst) with
    | some d => Fg (gt tm d) t H (fun k' => Jq E.ti (El E cal β) o.op o.type tm H k') (fun v H => K (Sy tm o.dst v) H)
    | none => none) = some r := by
 simp only [Mh] at h
 split at h
 ·rename_i hc
  exact ⟨hc, h⟩
 ·cases h
theorem Qr {E : O9} {ef : Nat → Option Nat} (hT : J8 P E.ti) (hsz : ∀ t i, E.ti t = some i → i.ik = some .u8 → i.size = 1) {cal : Cal} {w0 : World} (hc : N8 P E cal w0) {nt : Nat} {ops : Array Oper} {Q : Exit → Act → World → Prop} {r : β} {j : Nat} {o : Oper} {K : Tm → Ab → Option β}
  (ho : ops[j]? = some o) (hB : O7 E nt o = true) (hef : ef j = none) {φ : Ee} {tm : Tm} {H : Ab} {a : Act} {w : World} (hs : St w0 φ tm H nt a w) (h : Mh E.ti (El E cal β) (Nm ops.toList) ops.toList o tm H K = some r) {R : Act → World → Prop}
  (hR : ∀ (φ' : Ee) (v : AV) (u : Value) (H' : Ab) (w' : World), PLe φ φ' → HR w0 φ' w' H' → VR w0 φ' v u → K (Sy tm o.dst v) H' = some r → R (a.put o.dst u) w') :
  wpOp P ops Q j (fun a' w' => ((j ∉ AaY E ops → Below w.heap.size w w') ∧ ∀ B, ef j = some B → OnlyB B w w') ∧ R a' w') a w := by
 obtain ⟨hchk, h⟩ := O3 h
 have hB' := hB
 simp only [O7, zag] at hB'
 unfold wpOp
 simp only [ho]
 rcases P0 (n := nt) hs.tr h with ⟨hw, h⟩ | ⟨hw, h⟩
 ·rw [if_pos hw]
  left
  refine Ab6 hT hc hB'.1 hsz hs.hr hs.tr h _ Q fun u w' ⟨⟨v, φ', H', h1, h2, h3, h4⟩, hcalm⟩ => ?_
  refine ⟨⟨fun hnd => hcalm ?_, fun B hB => by rw [hef] at hB; cases hB⟩, hR φ' v u H' w' h2 h3 h4 h1⟩
  have hlt : j < ops.size := (zaB.1 ho).1
  have : (Od E o.op || Je E.ti o.op || (Z4 ops.toList o).isSome) = true := by
   cases hh : (Od E o.op || Je E.ti o.op || (Z4 ops.toList o).isSome) with
   | true => rfl
   | false =>
    refine absurd (List.mem_filter.2 ⟨List.mem_range.2 hlt, ?_⟩) hnd
    rw [ho]
    simp only [hh]
    rfl
  simp only [zaK] at this
  rcases this with (h | h) | h
  ·exact .inl h
  ·exact .inr (.inl h)
  ·obtain ⟨x, hx⟩ := Option.isSome_iff_exists.1 h
   refine .inr (.inr ⟨_, x, hx, ?_⟩)
   simpa [Nm, hx] using hchk
 ·rw [hw]
  exact ⟨⟨fun _ => Below.refl _ _, fun B _ => OnlyB.refl B _⟩, hR φ (.sc undef) undef H w (PLe.refl _) hs.hr (Gk _ _ _) h⟩
def Yt (rt : List (Nat × Nat)) (a0 : Act) (d : Nat) : Option Nat := (U2 rt d).bind fun t => match a0.tmps.getD t undef with
 | .pointer (some p) => some p.block
 | _ => none
theorem Qn {rt : List (Nat × Nat)} {a0 : Act} {d : Nat} (h : U2 rt d = none) : Yt rt a0 d = none := by
 unfold Yt
 rw [h]
 rfl
theorem X0 : ∀ {rt : List (Nat × Nat)} {d t : Nat}, U2 rt d = some t → (d, t) ∈ rt
 | (e, s) :: r, d, t, h => by
  unfold U2 at h
  split at h
  ·rename_i hb
   have := zaT hb
   cases h
   subst this
   exact za1
  ·exact zav _ (X0 h)
theorem AiD {a : Act} {d : Option Tmp} {u : Value} {t : Nat} (h : d ≠ some t) : (a.put d u).tmps.getD t undef = a.tmps.getD t undef := by
 cases d with
 | none => rfl
 | some x =>
  have hx : x ≠ t := fun e => h (by rw [e])
  simp [Act.put, zb8 hx]
def Kept0 (rt : List (Nat × Nat)) (a0 a : Act) : Prop := ∀ d t, U2 rt d = some t → a.tmps.getD t undef = a0.tmps.getD t undef
theorem Kept0.put {rt : List (Nat × Nat)} {a0 a : Act} (h : Kept0 rt a0 a) {ops : Array Oper} {ts : List Nat} (hrt : rtB ops ts = true) (hts : ∀ p ∈ rt, p.2 ∈ ts) {i : Nat} {o : Oper} (ho : ops[i]? = some o) (u : Value) : Kept0 rt a0 (a.put o.dst u) := by
 intro d t ht
 rw [AiD (fun e => ?_)]
 ·exact h d t ht
 ·have h1 := za9.1 hrt t (hts _ (X0 ht))
  have h2 := zb6.1 h1 o (Array.mem_of_getElem? ho)
  simp [e] at h2
def AnyX (P : Program) (ops : Array Oper) (Q : Exit → Act → World → Prop) (ds : List Nat) (ef : Nat → Option Nat) (ex : List Nat) : Nat → Array Bool → Act → World → Prop
 | 0, listed, a, w => Ng P ops Q ds ef 0 listed a w
 | fuel + 1, listed, a, w => Region.ready .any ops listed ≠ [] ∧
  ∀ i ∈ Region.ready .any ops listed, i ∉ ex → wpOp P ops Q i (fun a' w' => ((i ∉ ds → Below w.heap.size w w') ∧ ∀ B, ef i = some B → OnlyB B w w') ∧ Ng P ops Q ds ef fuel (listed.setIfInBounds i true) a' w') a w
theorem AnyX.any {ops : Array Oper} {Q : Exit → Act → World → Prop} {ds : List Nat} {ef : Nat → Option Nat} {n : Nat} {listed : Array Bool} {a : Act} {w : World} (h : AnyX P ops Q ds ef [] n listed a w) : Ng P ops Q ds ef n listed a w := by
 cases n with
 | zero => exact h
 | succ n => exact ⟨fun e => absurd e h.1, fun i hi => h.2 i hi (by simp)⟩
theorem AnyX.of {ops : Array Oper} {Q : Exit → Act → World → Prop} {ds : List Nat} {ef : Nat → Option Nat} {n i : Nat} {ex : List Nat} {listed : Array Bool} {a : Act} {w : World} (hi : i ∈ Region.ready .any ops listed) (h : Ng P ops Q ds ef (n + 1) listed a w) : AnyX P ops Q ds ef ex (n + 1) listed a w :=
 ⟨zbD hi, fun j hj _ => h.2 j hj⟩
theorem mem_rdyX {ops : Array Oper} {listed : Array Bool} {ex : List Nat} {z : Nat} : z ∈ U0 ops listed ex ↔ z ∈ Region.ready .any ops listed ∧ z ∉ ex := by
 simp [U0, List.mem_filter]
theorem G8 {E : O9} (hT : J8 P E.ti) (hsz : ∀ t i, E.ti t = some i → i.ik = some .u8 → i.size = 1) {cal : Cal} {w0 : World} (hc : N8 P E cal w0) {nt : Nat} {ops : Array Oper} {Q : Exit → Act → World → Prop} {K : Tm → Ab → Option β} {r : β}
  (hB : ∀ (i : Nat) (o : Oper), ops[i]? = some o → O7 E nt o = true) (hsel : Region.noSelect ops = true) (hpan : ∀ c a w, ¬ Q (.panic c) a w) {rt : List (Nat × Nat)} {ts : List Nat} (hrt : rtB ops ts = true) (hts : ∀ p ∈ rt, p.2 ∈ ts) (a0 : Act) :
  ∀ (l : PI) (os : PT) (ex : List Nat) (listed : Array Bool) (φ : Ee) (tm : Tm) (H : Ab) (a : Act) (w : World), Ir E ops (AaY E ops) rt l ex listed = true → Closed ops listed → Iq ops.toList ts l = some os → St w0 φ tm H nt a w → Kept0 rt a0 a →
   He E.ti (El E cal β) (Nm ops.toList) ops.toList os tm H K = some r → (∀ a w, AfM w0 φ nt K r a w → Q .normal a w) → AnyX P ops Q (AaY E ops) (Yt rt a0) ex l.len listed a w
 | .nil, os, ex, listed, φ, tm, H, a, w, hp, _, hpk, hs, h0, h, hQ => by
  simp only [Iq, Option.some.injEq] at hpk
  subst hpk
  exact ⟨by simpa [Ir] using hp, hQ a w ⟨φ, tm, H, PLe.refl _, hs, h⟩⟩
 | .one i l, os, ex, listed, φ, tm, H, a, w, hp, hcl, hpk, hs, h0, h, hQ => by
  simp only [Iq] at hpk
  split at hpk
  ·rename_i o os' ho' hos
   simp only [Option.some.injEq] at hpk
   subst hpk
   have ho : ops[i]? = some o := by simpa using ho'
   have hst : Mh E.ti (El E cal β) (Nm ops.toList) ops.toList o tm H (fun tm H => He E.ti (El E cal β) (Nm ops.toList) ops.toList os' tm H K) = some r := h
   obtain ⟨hchk, h⟩ := O3 hst
   have hB' := hB i o ho
   simp only [O7, zag] at hB'
   have hd : ∀ t, o.dst = some t → t < nt := by
    intro t ht
    have := hB'.2
    rw [ht] at this
    simpa using this
   simp only [Ir, ho, zag, zaK] at hp
   obtain ⟨hp, hp'⟩ := hp
   have rest : ∀ (φ' : Ee) (v : AV) (u : Value) (H' : Ab) (w' : World), i ∈ Region.ready .any ops listed → PLe φ φ' → HR w0 φ' w' H' → VR w0 φ' v u → He E.ti (El E cal β) (Nm ops.toList) ops.toList os' (Sy tm o.dst v) H' K = some r →
     Ng P ops Q (AaY E ops) (Yt rt a0) l.len (listed.setIfInBounds i true) (a.put o.dst u) w' := by
    intro φ' v u H' w' hi h1 h2 h3 h4
    exact (G8 hT hsz hc hB hsel hpan hrt hts a0 l os' [] _ φ' _ H' _ w' hp' (hcl.set hi) hos (hs.put h1 h2 h3 hd) (h0.put hrt hts ho u) h4 fun a w ⟨φ2, tm2, H2, q1, q2, q3⟩ => hQ a w ⟨φ2, tm2, H2, PLe.trans h1 q1, q2, q3⟩).any
   rcases hp with ⟨⟨hq, hfree⟩, hrdy⟩ | hone
   ·have hrdy : i ∈ Region.ready .any ops listed := by simpa using hrdy
    have hqu : Je E.ti o.op = true := by
     rcases hq with hq | hq
     ·exact hq.2
     ·exact hq.1
    have hQ' : ∀ v, ∀ c a w, Q (.panic c) (a.put o.dst v) w → Q (.panic c) a w := fun v c a w h => absurd h (hpan _ _ _)
    rcases P0 (n := nt) hs.tr h with ⟨hw, h⟩ | ⟨hw, h⟩
    ·obtain ⟨v, u, h1, h2, h3, h4⟩ := Up hT cal hqu hB'.1 hs.hr hs.tr h
     have hrest := rest φ v u H w hrdy (PLe.refl _) hs.hr h2 h1
     rcases hq with hq | hq
     ·refine AnyX.of hrdy ?_
      exact Lr (S := fun _ => True) (fun _ _ _ _ => trivial) ho (Region.noSelect_spec hsel) (hQ' u) ops.size _ listed a w (Region.free_spec ho hfree) hcl (fun _ _ _ => .inl fun _ => trivial) hrdy (.inl ⟨hw, fun w' _ => h4 hq.1 w'⟩) trivial hrest
     ·refine AnyX.of hrdy ?_
      refine Lr (S := fun w' => Below w.heap.size w w') (fun w1 w2 h1 h2 => ?_) ho (Region.noSelect_spec hsel) (hQ' u) ops.size _ listed a w (Region.free_spec ho hfree) hcl (fun d hdm hun => .inr (.inl ?_)) hrdy (.inl ⟨hw, fun w' hw' => h3 w' hw'⟩) (Below.refl _ _) hrest
      ·exact h1.trans ⟨h2.os, h2.tape, h2.output, h2.size, fun b hb => h2.block b (zb2 hb h1.size)⟩
      ·have := za9.1 hq.2 d hdm
       rw [hun] at this
       simpa using this
    ·have hrest := rest φ (.sc undef) undef H w hrdy (PLe.refl _) hs.hr (Gk _ _ _) h
     refine AnyX.of hrdy ?_
     exact Lr (S := fun _ => True) (fun _ _ _ _ => trivial) ho (Region.noSelect_spec hsel) (hQ' undef) ops.size _ listed a w (Region.free_spec ho hfree) hcl (fun _ _ _ => .inl fun _ => trivial) hrdy (.inr ⟨hw, rfl⟩) trivial hrest
   ·obtain ⟨hone, hrn⟩ := hone
    have hone : U0 ops listed ex = [i] := by simpa using hone
    have hef : Yt rt a0 i = none := Qn (by simpa using hrn)
    have hrdy : i ∈ Region.ready .any ops listed := (mem_rdyX.1 (by rw [hone]; exact za1 : i ∈ U0 ops listed ex)).1
    refine ⟨zbD hrdy, fun j hj hx => ?_⟩
    have hj' := mem_rdyX.2 ⟨hj, hx⟩
    rw [hone] at hj'
    have : j = i := by simpa using hj'
    subst this
    exact Qr hT hsz hc ho (hB j o ho) hef hs hst fun φ' v u H' w' h1 h2 h3 h4 => rest φ' v u H' w' hrdy h1 h2 h3 h4
  ·cases hpk
 | .two i l j m, os, ex, listed, φ, tm, H, a, w, hp, hcl, hpk, hs, h0, h, hQ => by
  simp only [Iq] at hpk
  split at hpk
  ·rename_i o r1 o' r2 ho1 hrr1 ho2 hrr2
   simp only [Option.some.injEq] at hpk
   subst hpk
   have ho : ops[i]? = some o := by simpa using ho1
   have ho' : ops[j]? = some o' := by simpa using ho2
   obtain ⟨h1, h2⟩ := Xq (show Qd (Mh E.ti (El E cal β) (Nm ops.toList) ops.toList o tm H (fun tm H => He E.ti (El E cal β) (Nm ops.toList) ops.toList r1 tm H K)) (Mh E.ti (El E cal β) (Nm ops.toList) ops.toList o' tm H (fun tm H => He E.ti (El E cal β) (Nm ops.toList) ops.toList r2 tm H K)) = some r from h)
   simp only [Ir, zag, zaK, beq_iff_eq] at hp
   obtain ⟨⟨⟨⟨hready, hlen⟩, hr1, hr2⟩, hp1⟩, hp2⟩ := hp
   have hmem : ∀ z, z ∈ U0 ops listed ex ↔ z = i ∨ z = j := by
    intro z
    rcases hready with e | e <;> rw [e] <;> simp [or_comm]
   have hdst : ∀ (z : Nat) (oz : Oper), ops[z]? = some oz → ∀ t, oz.dst = some t → t < nt := by
    intro z oz hz t ht
    have := hB z oz hz
    simp only [O7, zag] at this
    have := this.2
    rw [ht] at this
    simpa using this
   refine ⟨zbD (mem_rdyX.1 ((hmem i).2 (.inl rfl))).1, fun z hz hx => ?_⟩
   ·rcases (hmem z).1 (mem_rdyX.2 ⟨hz, hx⟩) with rfl | rfl
    ·exact Qr hT hsz hc ho (hB _ o ho) (Qn hr1) hs h1 fun φ' v u H' w' g1 g2 g3 g4 =>
      (G8 hT hsz hc hB hsel hpan hrt hts a0 l r1 [] _ φ' _ H' _ w' hp1 (hcl.set hz) hrr1 (hs.put g1 g2 g3 (hdst _ o ho)) (h0.put hrt hts ho u) g4 fun a w ⟨φ2, tm2, H2, q1, q2, q3⟩ => hQ a w ⟨φ2, tm2, H2, PLe.trans g1 q1, q2, q3⟩).any
    ·refine Qr hT hsz hc ho' (hB _ o' ho') (Qn hr2) hs h2 fun φ' v u H' w' g1 g2 g3 g4 => ?_
     have := (G8 hT hsz hc hB hsel hpan hrt hts a0 m r2 [] _ φ' _ H' _ w' hp2 (hcl.set hz) hrr2 (hs.put g1 g2 g3 (hdst _ o' ho')) (h0.put hrt hts ho' u) g4 fun a w ⟨φ2, tm2, H2, q1, q2, q3⟩ => hQ a w ⟨φ2, tm2, H2, PLe.trans g1 q1, q2, q3⟩).any
     rwa [← hlen] at this
  ·cases hpk
 | .alt i l m, os, ex, listed, φ, tm, H, a, w, hp, hcl, hpk, hs, h0, h, hQ => by
  simp only [Iq] at hpk
  split at hpk
  ·rename_i o r1 r2 ho1 hrr1 hrr2
   simp only [Option.some.injEq] at hpk
   subst hpk
   have ho : ops[i]? = some o := by simpa using ho1
   obtain ⟨h1, h2⟩ := Xq (show Qd (Mh E.ti (El E cal β) (Nm ops.toList) ops.toList o tm H (fun tm H => He E.ti (El E cal β) (Nm ops.toList) ops.toList r1 tm H K)) (He E.ti (El E cal β) (Nm ops.toList) ops.toList r2 tm H K) = some r from h)
   simp only [Ir, zag, beq_iff_eq] at hp
   obtain ⟨⟨⟨⟨hready, hlen⟩, hr1⟩, hp1⟩, hp2⟩ := hp
   have hi := (mem_rdyX.1 (by simpa using hready : i ∈ U0 ops listed ex)).1
   have hdst : ∀ (z : Nat) (oz : Oper), ops[z]? = some oz → ∀ t, oz.dst = some t → t < nt := by
    intro z oz hz t ht
    have := hB z oz hz
    simp only [O7, zag] at this
    have := this.2
    rw [ht] at this
    simpa using this
   have hm := G8 hT hsz hc hB hsel hpan hrt hts a0 m r2 (i :: ex) listed φ tm H a w hp2 hcl hrr2 hs h0 h2 hQ
   rw [← hlen] at hm
   refine ⟨zbD hi, fun z hz hx => ?_⟩
   by_cases hzi : z = i
   ·subst hzi
    exact Qr hT hsz hc ho (hB _ o ho) (Qn hr1) hs h1 fun φ' v u H' w' g1 g2 g3 g4 =>
     (G8 hT hsz hc hB hsel hpan hrt hts a0 l r1 [] _ φ' _ H' _ w' hp1 (hcl.set hz) hrr1 (hs.put g1 g2 g3 (hdst _ o ho)) (h0.put hrt hts ho u) g4 fun a w ⟨φ2, tm2, H2, q1, q2, q3⟩ => hQ a w ⟨φ2, tm2, H2, PLe.trans g1 q1, q2, q3⟩).any
   ·exact hm.2 z hz (by simp [hzi, hx])
  ·cases hpk
 | .ld i l, os, ex, listed, φ, tm, H, a, w, hp, hcl, hpk, hs, h0, h, hQ => by
  simp only [Iq] at hpk
  split at hpk
  ·rename_i o os' ho' hos
   simp only [Option.some.injEq] at hpk
   subst hpk
   have ho : ops[i]? = some o := by simpa using ho'
   have hap : Oz (Ua o tm) (ts.map (gt tm)) H (Mh E.ti (El E cal β) (Nm ops.toList) ops.toList o tm H (fun tm H => He E.ti (El E cal β) (Nm ops.toList) ops.toList os' tm H K)) = some r := h
   unfold Oz at hap
   split at hap
   case isFalse => cases hap
   rename_i hapB
   obtain ⟨_, h⟩ := O3 hap
   have hB' := hB i o ho
   simp only [O7, zag] at hB'
   have hd : ∀ t, o.dst = some t → t < nt := by
    intro t ht
    have := hB'.2
    rw [ht] at this
    simpa using this
   simp only [Ir, ho, zag] at hp
   obtain ⟨⟨⟨⟨⟨hld, hgd⟩, hds⟩, hfree⟩, hrdy⟩, hp'⟩ := hp
   have hrdy : i ∈ Region.ready .any ops listed := by simpa using hrdy
   have hg : o.guard = none := by
    cases hgo : o.guard with
    | none => rfl
    | some g => rw [hgo] at hgd; cases hgd
   rw [hg] at h
   simp only at h
   have hwant : Region.wanted o (yielded ops a.tmps) = true := by
    unfold Region.wanted
    rw [hg]
   obtain ⟨t, x, hop⟩ : ∃ t x, o.op = .load t x := by
    cases hoo : o.op <;> rw [hoo] at hld <;> first | exact ⟨_, _, rfl⟩ | cases hld
   rw [hop] at h
   simp only [Jq] at h
   have hadr : Ua o tm = ev tm x := by
    unfold Ua
    rw [hop]
   rw [hadr] at hapB
   split at h
   case h_2 => cases h
   rename_i ti hti
   have hxv := Dz hs.tr x
   cases hx : ev tm x <;> rw [hx] at hapB <;> try (simp [Vo] at hapB; done)
   rename_i id off
   rw [hx] at h hxv
   obtain ⟨v, uv, b, o', sz, e1, e2, e3, e4, e5⟩ := AcK (P := P) (hT _ _ hti) hs.hr hxv h
   simp only [Vo, zag] at hapB
   obtain ⟨hlv0, hall⟩ := hapB
   have live : ∀ z : Nat, (match H[z]? with | some b => b.live | none => false) = true → ∃ k, H[z]? = some k ∧ k.live = true := by
    intro z hz
    cases hk : H[z]? with
    | none => rw [hk] at hz; cases hz
    | some k => rw [hk] at hz; exact ⟨k, rfl, hz⟩
   obtain ⟨k0, hk0, hkl0⟩ := live id hlv0
   have hrest := (G8 hT hsz hc hB hsel hpan hrt hts a0 l os' [] _ φ _ H _ w hp' (hcl.set hrdy) hos (hs.put (PLe.refl _) hs.hr e2 hd) (h0.put hrt hts ho uv) e1 hQ).any
   refine AnyX.of hrdy ?_
   refine Lr (S := fun w' => w'.heap[b]? = w.heap[b]? ∧ b < w'.heap.size) (fun w1 w2 h1 h2 => ⟨?_, zb2 h1.2 h2.size⟩) ho (Region.noSelect_spec hsel) (fun c a w h => absurd h (hpan _ _ _)) ops.size _ listed a w (Region.free_spec ho hfree) hcl (fun d hdm hun => .inr ?_) hrdy (.inl ⟨hwant, fun w' hw' => ?_⟩) ⟨rfl, e4⟩ hrest
   ·rw [h2.block b h1.2, h1.1]
   ·have hdd := za9.1 hds d hdm
    simp only [zaK, hun, zaa, false_or] at hdd
    rcases hdd with hdd | hdd
    ·exact .inl hdd
    ·obtain ⟨t', ht'⟩ := Option.isSome_iff_exists.1 hdd
     have hmem := hts _ (X0 ht')
     have hc1 := za9.1 hall (gt tm t') (zbS.2 ⟨t', hmem, rfl⟩)
     cases hgt : gt tm t' <;> rw [hgt] at hc1 <;> try (simp at hc1; done)
     rename_i id' off'
     simp only [zag, bne_iff_ne, ne_eq] at hc1
     obtain ⟨hne, hlv1⟩ := hc1
     obtain ⟨k1, hk1, hkl1⟩ := live id' hlv1
     have hv' := hs.tr t'
     rw [hgt, VR] at hv'
     obtain ⟨b', o1, sz', p1, p2⟩ := hv'
     have hbb : b ≠ b' := by
      rintro rfl
      exact hne (hs.hr.inj id id' k0 k1 b o' sz o1 sz' hk0 hk1 hkl0 hkl1 e3 p1)
     refine .inr ⟨b', ?_, fun w1 w2 h1 h2 => ⟨?_, zb2 h1.2 h2.1⟩⟩
     ·unfold Yt
      rw [ht', zad, ← h0 d t' ht', p2]
     ·rw [h2.2 b h1.2 hbb, h1.1]
   ·have := e5 w' hw'.1
    have he : (execOp a.eval o).run P w' = (do pure (.value (← Instr.loadAt t (a.eval x))) : Sem Next).run P w' := by
     unfold execOp
     rw [hop]
    rw [he]
    simp only [Sem.run_bind, this, Result.andThen_ok, Sem.run_pure]
  ·cases hpk
 | .st i t l, os, ex, listed, φ, tm, H, a, w, hp, hcl, hpk, hs, h0, h, hQ => by
  simp only [Iq] at hpk
  split at hpk
  ·rename_i o os' ho' hos
   simp only [Option.some.injEq] at hpk
   subst hpk
   have ho : ops[i]? = some o := by simpa using ho'
   have hap : Sx (Ua o tm) (gt tm t) (Mh E.ti (El E cal β) (Nm ops.toList) ops.toList o tm H (fun tm H => He E.ti (El E cal β) (Nm ops.toList) ops.toList os' tm H K)) = some r := h
   have hB' := hB i o ho
   simp only [O7, zag] at hB'
   have hd : ∀ t, o.dst = some t → t < nt := by
    intro t ht
    have := hB'.2
    rw [ht] at this
    simpa using this
   simp only [Ir, ho, zag, beq_iff_eq] at hp
   obtain ⟨⟨⟨⟨hst, hgd⟩, hone⟩, hrti⟩, hp'⟩ := hp
   have hg : o.guard = none := by
    cases hgo : o.guard with
    | none => rfl
    | some g => rw [hgo] at hgd; cases hgd
   obtain ⟨ty, x, y, hop⟩ : ∃ t x y, o.op = .store t x y := by
    cases hoo : o.op <;> rw [hoo] at hst <;> first | exact ⟨_, _, _, rfl⟩ | cases hst
   have hadr : Ua o tm = ev tm x := by
    unfold Ua
    rw [hop]
   rw [hadr] at hap
   have hxv := Dz hs.tr x
   have htv := hs.tr t
   cases hx : ev tm x <;> rw [hx] at hap <;> try (simp [Sx] at hap; done)
   rename_i id off
   cases hy : gt tm t <;> rw [hy] at hap <;> try (simp [Sx] at hap; done)
   rename_i id' off'
   simp only [Sx] at hap
   split at hap
   case isFalse => cases hap
   rename_i hid
   subst hid
   obtain ⟨_, h⟩ := O3 hap
   rw [hg] at h
   simp only at h
   rw [hop] at h
   simp only [Jq] at h
   split at h
   case h_2 => cases h
   rename_i ti hti
   rw [hx] at h hxv
   rw [hy, VR] at htv
   obtain ⟨b1, o1, sz1, p1, p2⟩ := htv
   obtain ⟨H', w', b, o', sz, e1, e2, e3, e4, e5, e6⟩ := AcZ (P := P) (hT _ _ hti) hs.hr hxv (Dz hs.tr y) (show Ej ti.size (AV.ptr id off) (ev tm y) H (fun H => He E.ti (El E cal β) (Nm ops.toList) ops.toList os' (Sy tm o.dst (AV.sc undef)) H K) = some r from h)
   have hbb : b1 = b := by
    rw [p1] at e3
    cases e3
    rfl
   have hef : Yt rt a0 i = some b := by
    unfold Yt
    rw [hrti, zad, ← h0 i t hrti, p2, hbb]
   have hwant : Region.wanted o (yielded ops a.tmps) = true := by
    unfold Region.wanted
    rw [hg]
   have hmem : i ∈ Region.ready .any ops listed := (mem_rdyX.1 (by rw [hone]; exact za1 : i ∈ U0 ops listed ex)).1
   refine ⟨zbD hmem, fun j hj hx => ?_⟩
   have hj' := mem_rdyX.2 ⟨hj, hx⟩
   rw [hone] at hj'
   have : j = i := by simpa using hj'
   subst this
   unfold wpOp
   simp only [ho]
   rw [if_pos hwant]
   left
   have hran : Ran P o a w fun u w2 => u = undef ∧ w2 = w' := by
    refine Ran.of_skip (w' := w') ?_ ⟨rfl, rfl⟩
    have he : (execOp a.eval o).run P w = (do Instr.storeAt ty (a.eval x) (a.eval y); pure .skip : Sem Next).run P w := by
     unfold execOp
     rw [hop]
    rw [he]
    simp only [Sem.run_bind, e6, Result.andThen_ok, Sem.run_pure]
   refine hran _ Q fun u w2 ⟨hu, hw2⟩ => ?_
   subst hu
   subst hw2
   refine ⟨⟨fun hnd => ?_, fun B hB => ?_⟩, ?_⟩
   ·exfalso
    refine hnd (List.mem_filter.2 ⟨List.mem_range.2 (zaB.1 ho).1, ?_⟩)
    rw [ho]
    simp [Od, Je, Z4, hop]
   ·rw [hef] at hB
    cases hB
    exact ⟨by rw [e4]; exact zao _, fun c _ hc => e5 c hc⟩
   ·exact (G8 hT hsz hc hB hsel hpan hrt hts a0 l os' [] _ φ _ H' _ _ hp' (hcl.set hmem) hos (hs.put (PLe.refl _) e2 (Gk _ _ _) hd) (h0.put hrt hts ho undef) e1 hQ).any
  ·cases hpk
theorem AcR {E : O9} (hT : J8 P E.ti) (hsz : ∀ t i, E.ti t = some i → i.ik = some .u8 → i.size = 1) {cal : Cal} {w0 : World} (hc : N8 P E cal w0) {nt : Nat} {ops : Array Oper} {Q : Exit → Act → World → Prop} {K : Tm → Ab → Option β} {r : β}
  (hB : ∀ (i : Nat) (o : Oper), ops[i]? = some o → O7 E nt o = true) (hsel : Region.noSelect ops = true) (hpan : ∀ c a w, ¬ Q (.panic c) a w) {rt : List (Nat × Nat)} {ts : List Nat} (hrt : rtB ops ts = true) (hts : ∀ p ∈ rt, p.2 ∈ ts) (a0 : Act) :
  ∀ (l : PI) (os : PT) (listed : Array Bool) (φ : Ee) (tm : Tm) (H : Ab) (a : Act) (w : World), Ir E ops (AaY E ops) rt l [] listed = true → Closed ops listed → Iq ops.toList ts l = some os → St w0 φ tm H nt a w → Kept0 rt a0 a →
   He E.ti (El E cal β) (Nm ops.toList) ops.toList os tm H K = some r → (∀ a w, AfM w0 φ nt K r a w → Q .normal a w) → Ng P ops Q (AaY E ops) (Yt rt a0) l.len listed a w :=
 fun l os listed φ tm H a w h1 h2 h3 h4 h5 h6 h7 => (G8 hT hsz hc hB hsel hpan hrt hts a0 l os [] listed φ tm H a w h1 h2 h3 h4 h5 h6 h7).any
end
section
open Go Go.RowKit
variable {P : Program} {β : Type}
def K3 (E : O9) (od : List (Nat × PI)) (nt : Nat) : Code → Bool
 | .skip => true
 | .region id ops false => Aa7 E nt ops
 | .region id ops true => Aa7 E nt ops && (match AdQ od id with | some l => Amc E ops l | none => true)
 | .seq a b => K3 E od nt a && K3 E od nt b
 | .cond _ a b => K3 E od nt a && K3 E od nt b
 | .block _ a => K3 E od nt a
 | .loop a => K3 E od nt a
 | _ => true
def ApT : Exit → Option Ex
 | .normal => some .normal
 | .exit i => some (.exit i)
 | .ret => some .ret
 | _ => none
def Post (w0 : World) (φ : Ee) (nt : Nat) (k : Ex → Tm → Ab → Option β) (r : β) (e : Exit) (a : Act) (w : World) : Prop :=
 ∃ ex φ' tm H, ApT e = some ex ∧ PLe φ φ' ∧ St w0 φ' tm H nt a w ∧ k ex tm H = some r
theorem Post.up {w0 : World} {φ φ' : Ee} {nt : Nat} {k : Ex → Tm → Ab → Option β} {r : β} {e : Exit} {a : Act} {w : World} (hp : PLe φ φ') (h : Post w0 φ' nt k r e a w) : Post w0 φ nt k r e a w := by
 obtain ⟨ex, φ2, tm, H, h1, h2, h3, h4⟩ := h
 exact ⟨ex, φ2, tm, H, h1, PLe.trans hp h2, h3, h4⟩
theorem Aie (tm : Tm) (i : Nat) : ∀ (l : List Nat), gt (l.map fun i => (i, gt tm i)) i = if i ∈ l then gt tm i else .any
 | [] => rfl
 | j :: l => by
  simp only [zat, gt]
  by_cases hj : j = i
  ·subst hj
   simp [Nat.beq_refl]
  ·have e : zbC j i = false := by
    cases hb : zbC j i
    ·rfl
    ·exact absurd (zaT hb) hj
   rw [e]
   simp only [zaa, if_false]
   rw [Aie tm i l]
   simp [Ne.symm hj]
theorem St.nrm {w0 : World} {φ : Ee} {tm : Tm} {H : Ab} {nt : Nat} {a : Act} {w : World} (h : St w0 φ tm H nt a w) (n : Nat) : St w0 φ (nrm n tm) H nt a w := by
 refine ⟨h.hr, fun i => ?_, h.size, h.defers⟩
 unfold Abs.nrm
 rw [Aie]
 split
 ·exact h.tr i
 ·rw [VR]; trivial
theorem Jc {E : O9} (hT : J8 P E.ti) (hsz : ∀ t i, E.ti t = some i → i.ik = some .u8 → i.size = 1) {cal : Cal} {w0 : World} (hc : N8 P E cal w0) (hm : P.follows .mixedOrders = true) {od : List (Nat × PI)} {nt n : Nat} {r : β} :
  ∀ (c : Code) (φ : Ee) (tm : Tm) (H : Ab) (a : Act) (w : World) (k : Ex → Tm → Ab → Option β), K3 E od nt c = true → St w0 φ tm H nt a w → Af E.ti (El E cal β) od nt n c tm H k = some r → c.wp P (Post w0 φ nt k r) a w
 | .skip, φ, tm, H, a, w, k, hB, hs, h => wp_skip ⟨.normal, φ, tm, H, rfl, PLe.refl _, hs, h⟩
 | .region id ops false, φ, tm, H, a, w, k, hB, hs, h => by
  simp only [K3, Aa7] at hB
  simp only [Af] at h
  refine wp_region_list (Tt hT hsz hc ops.toList φ tm H a w (fun o ho => zb6.1 hB o (by simpa using ho)) hs h fun a w ⟨φ', tm', H', h1, h2, h3⟩ => ⟨.normal, φ', tm', H', rfl, h1, h2, h3⟩)
 | .region id ops true, φ, tm, H, a, w, k, hB, hs, h => by
  simp only [K3, zag] at hB
  simp only [Af] at h
  split at h
  ·rename_i os hos
   obtain ⟨l, hl, hos⟩ := zab.1 hos
   have hB2 := hB.2
   rw [hl] at hB2
   simp only [Amc, zag, beq_iff_eq] at hB2
   refine wp_region_any hm (Ym (ds := AaY E ops) (ef := Yt l.rts a) _ _ _ _ ?_)
   have hs' : St w0 φ tm H nt a { w with drawn := w.drawn + 1 } := by
    refine ⟨hs.hr.later ⟨rfl, rfl, rfl, zao _, fun _ _ => rfl⟩, hs.tr, hs.size, hs.defers⟩
   have key := AcR (Q := Post w0 φ nt k r) hT hsz hc (fun i o ho => zb6.1 hB.1 o (Array.mem_of_getElem? ho)) hB2.1.2.1 (fun c a w ⟨ex, _, _, _, h1, _⟩ => by cases h1) hB2.1.2.2.1 (fun p hp => by simpa using za9.1 hB2.1.2.2.2 p hp) a l os _ φ tm H a _ hB2.2
    (fun j oj hj hl => by
     have hlt : j < ops.size := (zaB.1 hj).1
     simp [hlt] at hl) hos hs' (fun _ _ _ => rfl) h (fun a w ⟨φ', tm', H', h1, h2, h3⟩ => ⟨.normal, φ', tm', H', rfl, h1, h2, h3⟩)
   rw [hB2.1.1] at key
   exact key
  ·cases h
 | .seq x y, φ, tm, H, a, w, k, hB, hs, h => by
  simp only [K3, zag] at hB
  simp only [Af] at h
  refine wp_seq (wp_mono (Jc hT hsz hc hm x φ tm H a w _ hB.1 hs h) fun e a w ⟨ex, φ', tm', H', h1, h2, h3, h4⟩ => ?_)
  cases e with
  | normal =>
   cases h1
   exact wp_mono (Jc hT hsz hc hm y φ' tm' H' a w k hB.2 h3 h4) fun e a w h => Post.up h2 h
  | exit i => cases h1; exact ⟨_, φ', tm', H', rfl, h2, h3, h4⟩
  | ret => cases h1; exact ⟨_, φ', tm', H', rfl, h2, h3, h4⟩
  | _ => cases h1
 | .cond c x y, φ, tm, H, a, w, k, hB, hs, h => by
  simp only [K3, zag] at hB
  simp only [Af] at h
  have h : ((asB (ev tm c)).bind fun t => if t then Af E.ti (El E cal β) od nt n x tm H k else Af E.ti (El E cal β) od nt n y tm H k) = some r := h
  obtain ⟨t, ht, h⟩ := zab.1 h
  have hv := Z5 (Dz hs.tr c) ht
  cases t with
  | true => exact wp_cond_true hv (Jc hT hsz hc hm x φ tm H a w k hB.1 hs (by simpa using h))
  | false => exact wp_cond_false hv (Jc hT hsz hc hm y φ tm H a w k hB.2 hs (by simpa using h))
 | .block id x, φ, tm, H, a, w, k, hB, hs, h => by
  simp only [K3] at hB
  simp only [Af] at h
  refine wp_block (wp_mono (Jc hT hsz hc hm x φ tm H a w _ hB hs h) fun e a w ⟨ex, φ', tm', H', h1, h2, h3, h4⟩ => ?_)
  cases e with
  | normal => cases h1; exact ⟨_, φ', tm', H', rfl, h2, h3, h4⟩
  | exit i =>
   cases h1
   simp only [Eb] at h4
   simp only [Exit.inBlock]
   split
   ·rename_i hi
    rw [if_pos hi] at h4
    exact ⟨_, φ', tm', H', rfl, h2, h3, h4⟩
   ·rename_i hi
    rw [if_neg hi] at h4
    exact ⟨_, φ', tm', H', rfl, h2, h3, h4⟩
  | ret => cases h1; exact ⟨_, φ', tm', H', rfl, h2, h3, h4⟩
  | _ => cases h1
 | .loop x, φ, tm, H, a, w, k, hB, hs, h => by
  simp only [K3] at hB
  simp only [Af] at h
  have rounds : ∀ (m : Nat) (φ' : Ee) (tm : Tm) (H : Ab) (a : Act) (w : World), PLe φ φ' → St w0 φ' tm H nt a w → C7 nt (fun tm H k => Af E.ti (El E cal β) od nt n x tm H k) k m tm H = some r →
    Code.rounds P x (Post w0 φ nt k r) m a w := by
   intro m
   induction m with
   | zero => intro φ' tm H a w _ _ h; cases h
   | succ m ih =>
    intro φ' tm H a w hp hs h
    simp only [C7] at h
    refine wp_mono (Jc hT hsz hc hm x φ' tm H a w _ hB hs h) fun e a w ⟨ex, φ2, tm', H', h1, h2, h3, h4⟩ => ?_
    cases e with
    | normal => cases h1; exact ih φ2 _ H' a w (PLe.trans hp h2) (h3.nrm nt) h4
    | exit i => cases h1; exact ⟨_, φ2, tm', H', rfl, PLe.trans hp h2, h3, h4⟩
    | ret => cases h1; exact ⟨_, φ2, tm', H', rfl, PLe.trans hp h2, h3, h4⟩
    | _ => cases h1
  exact wp_loop_rounds n (rounds n φ (nrm nt tm) H a w (PLe.refl _) (hs.nrm nt) h)
 | .exit i, φ, tm, H, a, w, k, hB, hs, h => wp_exit ⟨_, φ, tm, H, rfl, PLe.refl _, hs, h⟩
 | .ret, φ, tm, H, a, w, k, hB, hs, h => wp_ret ⟨_, φ, tm, H, rfl, PLe.refl _, hs, h⟩
 | .label l, φ, tm, H, a, w, k, hB, hs, h => by simp only [Af] at h; cases h
 | .goto l, φ, tm, H, a, w, k, hB, hs, h => by simp only [Af] at h; cases h
 | .rangeFunc _ _ _ _, φ, tm, H, a, w, k, hB, hs, h => by simp only [Af] at h; cases h
theorem Nc {ti : Nat → Option TI} (hT : J8 P ti) {E : O9} {cal : Cal} {w0 : World} {φ : Ee} {tm : Tm} {H : Ab} {a : Act} {w : World} (hr : HR w0 φ w H) (htm : TR w0 φ tm a) {r : β} :
  ∀ (rs : List ResultVar) (K : List AV → Option β), AbG ti (El E cal β) tm H rs K = some r →
   ∃ vs us, ((rs.mapM fun
    | .tmp t => pure (a.tmps.getD t undef)
    | .cell c t => do loadVar t (← asAddr (a.tmps.getD c undef)) : Sem (List Value))).run P w = .ok us w ∧ us.length = vs.length ∧ vs.length = rs.length ∧ VRs w0 φ vs (fun j => us[j]?) ∧ K vs = some r
 | [], K, h => ⟨[], [], rfl, rfl, rfl, by rw [VRs]; trivial, h⟩
 | .tmp t :: rs, K, h => by
  simp only [AbG] at h
  obtain ⟨vs, us, h1, h2, h3, h4, h5⟩ := Nc hT hr htm rs _ h
  refine ⟨gt tm t :: vs, a.tmps.getD t undef :: us, ?_, by simp [h2], by simp [h3], ?_, h5⟩
  ·simp only [zaI, Sem.run_bind, Sem.run_pure, Result.andThen_ok, h1]
  ·rw [VRs]
   exact ⟨⟨_, rfl, htm t⟩, by simpa using h4⟩
 | .cell c t :: rs, K, h => by
  simp only [AbG] at h
  split at h
  ·rename_i i hi
   have hv := htm c
   have hp : ∃ A, a.tmps.getD c undef = .pointer (some A) := by
    simp only [El, Bx] at h
    generalize gt tm c = z at h hv
    cases z <;> simp only at h <;> try cases h
    ·rw [VR] at hv
     obtain ⟨b, o, sz, _, hv⟩ := hv
     exact ⟨_, hv⟩
    ·rw [VR] at hv
     obtain ⟨b, o, hv, _⟩ := hv
     exact ⟨_, hv⟩
   obtain ⟨v, u, g1, g2, g3⟩ := W9 (hT _ _ hi) hr hv h
   have g3 := g3 w (Below.refl _ _)
   obtain ⟨A, hA⟩ := hp
   obtain ⟨vs, us, h1, h2, h3, h4, h5⟩ := Nc hT hr htm rs _ g1
   refine ⟨v :: vs, u :: us, ?_, by simp [h2], by simp [h3], ?_, h5⟩
   ·rw [hA] at g3
    simp only [Instr.loadAt, Instr.sureAddr, Sem.run_bind, Sem.run_pure, Result.andThen_ok] at g3
    have hAA : ∀ w, (asAddr (.pointer (some A))).run P w = .ok A w := fun _ => rfl
    simp only [zaI, hA, hAA, Sem.run_bind, Sem.run_pure, Result.andThen_ok, g3, h1]
   ·rw [VRs]
    exact ⟨⟨_, rfl, g2⟩, by simpa using h4⟩
  ·cases h
end
section
open Go Go.RowKit
variable {P : Program} {β : Type}
structure Amj (P : Program) (E : O9) (f : FuncId) (i : E7) : Prop where
 fn : ∃ fn, P.funcs[f]? = some fn ∧ (fn.name == "runtime.NumGoroutine") = false ∧ fn.body = some i.body ∧ fn.ntmps = i.ntmps ∧ fn.results.toList = i.results
 code : K3 E i.ords i.ntmps i.body = true
theorem Aaq : ∀ (n i : Nat) (args : List AV) (j : Nat), gt (Uj n i args) (i + j) = if j < n then (args[j]?).getD (.sc undef) else .any
 | 0, i, args, j => by simp [Uj, gt]
 | n + 1, i, args, j => by
  have hne : ∀ j, zbC i (i + (j + 1)) = false := by
   intro j
   cases hb : zbC i (i + (j + 1))
   ·rfl
   ·have := zaT hb; omega
  cases args with
  | nil =>
   simp only [Uj, gt]
   cases j with
   | zero => simp [Nat.beq_refl]
   | succ j =>
    rw [hne j]
    have := Aaq n (i + 1) [] j
    rw [show i + 1 + j = i + (j + 1) by omega] at this
    simp [this]
  | cons x xs =>
   simp only [Uj, gt]
   cases j with
   | zero => simp [Nat.beq_refl]
   | succ j =>
    rw [hne j]
    have := Aaq n (i + 1) xs j
    rw [show i + 1 + j = i + (j + 1) by omega] at this
    simp [this]
theorem Ace {E : O9} (hT : J8 P E.ti) (hsz : ∀ t i, E.ti t = some i → i.ik = some .u8 → i.size = 1) {cal : Cal} {w0 : World} (hc : N8 P E cal w0) (hm : P.follows .mixedOrders = true) {n : Nat} {f : FuncId} {i : E7} (hf : Amj P E f i)
  {w : World} {φ : Ee} {H : Ab} {args : List AV} {us : List Value} {k : KO β} {r : β} (h : Bw E.ti (El E cal β) n i args H k = some r) (hr : HR w0 φ w H) (hl : us.length = args.length) (hle : args.length ≤ i.ntmps) (ha : VRs w0 φ args (fun j => us[j]?)) :
  (callFunc f us.toArray).run P w = .ok (.enter f us.toArray) w ∧ Calls P f us.toArray w fun e w' => ∃ u, e = .returned u ∧ Left w0 φ k r u w' := by
 obtain ⟨⟨fn, h1, h2, h3, h4, h5⟩, hcode⟩ := hf
 have hrun : ∀ w, (program).run P w = .ok P w := fun _ => rfl
 refine ⟨?_, ?_⟩
 ·simp only [callFunc, Sem.run_bind, hrun, Result.andThen_ok, h1, h2, h3, Option.isNone_some, zaa, if_false, Sem.run_pure]
 ·have hs : St w0 φ (Uj i.ntmps 0 args) H i.ntmps { tmps := us.toArray ++ zb7 (fn.ntmps - us.toArray.size) undef, defers := [] } w := by
   refine ⟨hr, fun j => ?_, by simp; omega, rfl⟩
   have hg := Aaq i.ntmps 0 args j
   rw [za0] at hg
   rw [hg]
   split
   ·rename_i hj
    rw [Df] at ha
    cases hx : args[j]? with
    | some x =>
     obtain ⟨u, e1, e2⟩ := ha j x hx
     have hlt : j < us.length := (zac.1 e1).1
     simp only [zaG]
     have : (us.toArray ++ zb7 (fn.ntmps - us.toArray.size) undef).getD j undef = u := by
      simp [zbE, Array.getElem?_append, hlt]
      have := (zac.1 e1).2
      exact this
     rw [this]
     exact e2
    | none =>
     have hlt : ¬ j < us.length := by rw [hl]; have := List.getElem?_eq_none_iff.1 hx; omega
     simp only [Option.getD_none]
     have : (us.toArray ++ zb7 (fn.ntmps - us.toArray.size) undef).getD j undef = undef := by
      simp only [zbE]
      rw [Array.getElem?_append_right (by simpa using Nat.le_of_not_lt hlt)]
      rw [Array.getElem?_replicate]
      split <;> rfl
     rw [this]
     exact Gk _ _ _
   ·rw [VR]; trivial
  refine calls_of_wp h1 h3 (wp_mono (Jc hT hsz hc hm i.body φ _ H _ w _ hcode hs h) fun e a w' ⟨ex, φ', tm, H', g1, g2, g3, g4⟩ => ?_)
  have fin : (AbG E.ti (El E cal β) tm H' i.results fun l => k (Cj l) H') = some r → ∃ v, (results fn a.tmps).run P w' = .ok v w' ∧ ∃ u, Ending.returned v = .returned u ∧ Left w0 φ k r u w' := by
   intro hk
   obtain ⟨vs, us', q1, q2, q3, q4, q5⟩ := Nc hT g3.hr g3.tr _ _ hk
   rw [← h5] at q1
   have hq : (results fn a.tmps).run P w' = .ok (if h : us'.toArray.size = 1 then us'.toArray[0] else .tuple us'.toArray) w' := by
    simp only [results, Sem.run_bind]
    rw [Array.mapM_eq_mapM_toList]
    simp only [Sem.run_map, Sem.run_pure]
    erw [q1]
    rfl
   refine ⟨_, hq, _, rfl, Cj vs, φ', H', q5, g2, g3.hr, ?_⟩
   by_cases h1' : us'.length = 1
   ·rw [dif_pos (by simpa using h1')]
    obtain ⟨u, rfl⟩ := zb0.1 h1'
    obtain ⟨v, rfl⟩ := zb0.1 (q2.symm.trans h1')
    rw [VRs] at q4
    obtain ⟨⟨u', e1, e2⟩, _⟩ := q4
    cases e1
    exact e2
   ·rw [dif_neg (by simpa using h1')]
    have : Cj vs = .tup vs := by
     match vs, q2 with
     | [], _ => rfl
     | [v], q2 => simp at q2; omega
     | _ :: _ :: _, _ => rfl
    rw [this, VR]
    exact ⟨us', rfl, q2, q4⟩
  cases e with
  | normal => cases g1; exact ⟨g3.defers, fin g4⟩
  | ret => cases g1; exact ⟨g3.defers, fin g4⟩
  | exit i => cases g1; cases g4
  | _ => cases g1
end
section
open Go Go.RowKit
variable {P : Program} {β : Type}
theorem H8 {f : AV → Option AV} : ∀ {cs vs : List AV}, cs.mapM f = some vs → vs.length = cs.length ∧ ∀ (j : Nat) v, vs[j]? = some v → ∃ x, cs[j]? = some x ∧ f x = some v
 | [], vs, h => by
  simp at h
  subst h
  exact ⟨rfl, fun j v h => by simp at h⟩
 | x :: cs, vs, h => by
  simp only [zaI, zbh, zaP, zab, Option.some.injEq] at h
  obtain ⟨y, hy, vs', hvs, rfl⟩ := h
  obtain ⟨h1, h2⟩ := H8 hvs
  refine ⟨by simp [h1], fun j v hj => ?_⟩
  cases j with
  | zero => simp at hj; subst hj; exact ⟨x, rfl, hy⟩
  | succ j => simpa using h2 j v (by simpa using hj)
theorem I9 {H : Ab} {id off n : Nat} {cs : List AV} (h : As H id off n = some cs) : cs.length = n ∧ ∃ k, H[id]? = some k ∧ k.live = true ∧ off + n ≤ k.cells.length ∧ cs = (k.cells.drop off).take n := by
 unfold As at h
 split at h
 ·rename_i k hk
  split at h
  ·rename_i hlv
   split at h
   ·rename_i hle
    cases h
    exact ⟨by simp; omega, k, hk, hlv, hle, rfl⟩
   ·cases h
  ·cases h
 ·cases h
theorem Yk {w0 w : World} {φ : Ee} {H : Ab} (hr : HR w0 φ w H) : ∀ (d : Nat) (x v : AV) (u : Value), C5 H d x = some v → VR w0 φ x u → VR w Gw v u
 | 0, x, v, u, h, _ => by cases h
 | d + 1, x, v, u, h, hx => by
  have lst : ∀ {cs vs : List AV} {g : Nat → Option Value}, cs.mapM (C5 H d) = some vs → VRs w0 φ cs g → VRs w Gw vs g := by
   intro cs vs g h hc
   obtain ⟨_, h2⟩ := H8 h
   rw [Df] at hc ⊢
   intro j v hj
   obtain ⟨x, hx, hv⟩ := h2 j v hj
   obtain ⟨u, e1, e2⟩ := hc j x hx
   exact ⟨u, e1, Yk hr d x v u hv e2⟩
  cases x <;> simp only [C5] at h <;> try cases h
  ·rw [VR] at hx; subst hx; exact Gk _ _ _
  ·rw [VR] at hx
   rw [VR]
   obtain ⟨A, rfl⟩ := hx
   exact ⟨A, 0, rfl, zao _, .inl rfl⟩
  ·refine VR.under hr.under ?_
   rw [VR] at hx ⊢
   exact hx
  ·rename_i id off n z
   obtain ⟨cs, hcs, h⟩ := zab.1 h
   obtain ⟨vs, hvs, h⟩ := zab.1 h
   cases h
   obtain ⟨hl, k, hk, hlv, _, _⟩ := I9 hcs
   obtain ⟨hl2, _⟩ := H8 hvs
   rw [VR] at hx
   rw [VR]
   rcases hx with ⟨_, _, rfl, A, rfl⟩ | ⟨b, o, s0, hp, ⟨rfl, A, rfl⟩ | ⟨c, hle, rfl, _⟩⟩
   ·exact ⟨A, 0, rfl, zao _, .inl (zar (by rw [hl2, hl]; simp))⟩
   ·exact ⟨A, 0, rfl, zao _, .inl (zar (by rw [hl2, hl]; simp))⟩
   ·refine ⟨_, c, rfl, hle, .inr ⟨b, o + off, rfl, ?_, ?_⟩⟩
    ·obtain ⟨_, arr, e, fr, h1, _⟩ := hr.blk id k b o s0 hk hlv hp
     exact (zaB.1 h1).1
    ·exact lst hvs (Ny hr hcs hp).2
  ·rename_i id off
   obtain ⟨b0, hb0, h⟩ := zab.1 h
   obtain ⟨cs, hcs, h⟩ := zab.1 h
   obtain ⟨vs, hvs, h⟩ := zab.1 h
   cases h
   obtain ⟨hl, k, hk, hlv, _, _⟩ := I9 hcs
   rw [VR] at hx
   rw [VR]
   obtain ⟨b, o, sz, hp, rfl⟩ := hx
   refine ⟨b, o + off, rfl, ?_, ?_⟩
   ·obtain ⟨_, arr, e, fr, h1, _⟩ := hr.blk id k b o sz hk hlv hp
    exact (zaB.1 h1).1
   ·exact lst hvs (Ny hr hcs hp).2
  ·refine VR.under hr.under ?_
   rw [VR] at hx ⊢
   exact hx
  ·obtain ⟨vs, hvs, h⟩ := zab.1 h
   cases h
   rw [VR] at hx ⊢
   obtain ⟨xs, rfl, h1, h2⟩ := hx
   exact ⟨xs, rfl, by rw [h1, (H8 hvs).1], lst hvs h2⟩
  ·obtain ⟨vs, hvs, h⟩ := zab.1 h
   cases h
   rw [VR] at hx ⊢
   obtain ⟨xs, rfl, h1, h2⟩ := hx
   exact ⟨xs, rfl, by rw [h1, (H8 hvs).1], lst hvs h2⟩
  ·rename_i f a c
   obtain ⟨as, has, h⟩ := zab.1 h
   obtain ⟨cs, hcs, h⟩ := zab.1 h
   cases h
   rw [VR] at hx ⊢
   obtain ⟨xs, ys, rfl, h1, h2, h3, h4⟩ := hx
   exact ⟨xs, ys, rfl, by rw [h1, (H8 has).1], by rw [h2, (H8 hcs).1], lst has h3, lst hcs h4⟩
theorem Qh {w0 w : World} {φ : Ee} {H : Ab} (hr : HR w0 φ w H) {d : Nat} {cs vs : List AV} {g : Nat → Option Value} (h : cs.mapM (C5 H d) = some vs) (hc : VRs w0 φ cs g) : VRs w Gw vs g := by
 obtain ⟨_, h2⟩ := H8 h
 rw [Df] at hc ⊢
 intro j v hj
 obtain ⟨x, hx, hv⟩ := h2 j v hj
 obtain ⟨u, e1, e2⟩ := hc j x hx
 exact ⟨u, e1, Yk hr d x v u hv e2⟩
section own
variable {ti : Nat → Option TI} {tp : Nat → Option (List Nat)} {Hc : Ab}
theorem Qx {f : Nat → AV → Option (AV × List Nat)} (hf : ∀ ty x t ids, f ty x = some (t, ids) → ∀ id ∈ ids, ∃ k, Hc[id]? = some k ∧ k.live = true) :
  ∀ (ts : List Nat) (xs : List AV) (q : List AV × List Nat), Di f ts xs = some q → ∀ id ∈ q.2, ∃ k, Hc[id]? = some k ∧ k.live = true
 | [], [], q, h => by simp only [Di, Option.some.injEq] at h; subst h; intro id hid; cases hid
 | [], _ :: _, q, h => by cases h
 | _ :: _, [], q, h => by cases h
 | t :: ts, x :: xs, q, h => by
  simp only [Di, zab, Option.some.injEq] at h
  obtain ⟨p, hp, q', hq, rfl⟩ := h
  intro id hid
  rcases zaQ.1 hid with h | h
  ·exact hf t x p.1 p.2 hp id h
  ·exact Qx hf ts xs q' hq id h
theorem Sv : ∀ (d : Nat) (ty : Nat) (x t : AV) (ids : List Nat), Cz ti tp Hc d ty x = some (t, ids) → ∀ id ∈ ids, ∃ k, Hc[id]? = some k ∧ k.live = true
 | 0, ty, x, t, ids, h => by cases h
 | d + 1, ty, x, t, ids, h => by
  have ih := Qx (Hc := Hc) (fun ty x t ids => Sv d ty x t ids)
  cases x <;> simp only [Cz] at h <;> try cases h
  ·intro id hid; cases hid
  ·intro id hid; cases hid
  ·rename_i id off n z
   obtain ⟨i, hi, h⟩ := zab.1 h
   obtain ⟨j, hj, h⟩ := zab.1 h
   split at h
   ·split at h
    ·obtain ⟨cs, hcs, h⟩ := zab.1 h
     obtain ⟨q, hq, h⟩ := zab.1 h
     cases h
     intro id' hid
     rcases zb9.1 hid with rfl | hid
     ·obtain ⟨_, k, hk, hl, _⟩ := I9 hcs
      exact ⟨k, hk, hl⟩
     ·exact ih _ _ _ hq id' hid
    ·cases h
   ·cases h
  ·obtain ⟨i, hi, h⟩ := zab.1 h
   obtain ⟨q, hq, h⟩ := zab.1 h
   cases h
   exact ih _ _ _ hq
  ·obtain ⟨i, hi, h⟩ := zab.1 h
   obtain ⟨q, hq, h⟩ := zab.1 h
   cases h
   exact ih _ _ _ hq
theorem W2 {f : Nat → AV → Option (AV × List Nat)} {m : Nat} {ts ts' : List Nat} {l : List AV} {q : List AV × List Nat} (h : Di f ts l = some q) : (Ap ti tp m ts' q.1).1.length = l.length := by
 have e1 : ∀ (m : Nat) (ts : List Nat) (l : List AV), (Ap ti tp m ts l).1.length = l.length := by
  intro m ts l
  induction l generalizing m ts with
  | nil => rfl
  | cons x l ih => simp only [Ap, zan, ih]
 have e2 : ∀ (ts : List Nat) (l : List AV) (q : List AV × List Nat), Di f ts l = some q → q.1.length = l.length := by
  intro ts
  induction ts with
  | nil =>
   intro l q h
   cases l with
   | nil => simp only [Di, Option.some.injEq] at h; subst h; rfl
   | cons x l => cases h
  | cons t ts ih =>
   intro l q h
   cases l with
   | nil => cases h
   | cons x l =>
    simp only [Di, zab, Option.some.injEq] at h
    obtain ⟨p, _, q', hq, rfl⟩ := h
    simp [ih l q' hq]
 rw [e1, e2 _ _ _ h]
theorem HR.deadblk {w0 : World} {φ : Ee} {w : World} {H : Ab} (hr : HR w0 φ w H) (k : Iu) (hk : k.live = false) : HR w0 φ w (H ++ [k]) := by
 have old : ∀ (i : Nat) (k' : Iu), (H ++ [k])[i]? = some k' → k'.live = true → H[i]? = some k' := by
  intro i k' hi hl
  by_cases hlt : i < H.length
  ·rwa [zal hlt] at hi
  ·rw [zaj (by omega)] at hi
   cases hq : i - H.length with
   | zero => rw [hq] at hi; simp at hi; subst hi; rw [hk] at hl; cases hl
   | succ m => rw [hq] at hi; simp at hi
 exact ⟨hr.bel, fun i k' b o sz hi hl hp => hr.blk i k' b o sz (old i k' hi hl) hl hp, fun i k' hi hl hp => hr.nil i k' (old i k' hi hl) hl hp,
  fun i i' k1 k2 b o sz o' sz' h1 h2 l1 l2 p1 p2 => hr.inj i i' k1 k2 b o sz o' sz' (old i k1 h1 l1) (old i' k2 h2 l2) l1 l2 p1 p2, fun i p hp => by have := hr.dom i p hp; simp; omega⟩
theorem HR.wake {w0 : World} {φ : Ee} {w : World} {A B : Ab} {k0 k : Iu} (hr : HR w0 φ w (A ++ k0 :: B)) (hn : φ A.length = none) {p : Pl}
  (hb : match p with
   | .nl => k.cells = []
   | .pt b o sz => Ajf w0 φ w k b o sz ∧ ∀ q k' o' sz', (A ++ k0 :: B)[q]? = some k' → k'.live = true → φ q ≠ some (.pt b o' sz')) : HR w0 (Vk φ A.length p) w (A ++ k :: B) := by
 have hle := Jf (p := p) hn
 have same : ∀ (i : Nat), i ≠ A.length → (A ++ k :: B)[i]? = (A ++ k0 :: B)[i]? := by
  intro i hi
  by_cases hlt : i < A.length
  ·rw [zal hlt, zal hlt]
  ·rw [zaj (by omega), zaj (by omega)]
   cases hq : i - A.length with
   | zero => omega
   | succ m => simp
 have at_ : (A ++ k :: B)[A.length]? = some k := by rw [zaj (zao _)]; simp
 have oldp : ∀ (i : Nat) (q : Pl), Vk φ A.length p i = some q → i ≠ A.length → φ i = some q := by
  intro i q hq hne
  unfold Vk at hq
  rwa [if_neg hne] at hq
 refine ⟨hr.bel, ?_, ?_, ?_, ?_⟩
 ·intro i k' b o sz hi hl hp
  by_cases he : i = A.length
  ·subst he
   rw [at_] at hi
   cases hi
   rw [Fj] at hp
   cases hp
   obtain ⟨h1, arr, e, fr, g1, g2, g3, g4, g5, g6⟩ := hb.1
   exact ⟨h1, arr, e, fr, g1, g2, g3, g4, g5, VRs.mono hle g6⟩
  ·rw [same i he] at hi
   obtain ⟨h1, arr, e, fr, g1, g2, g3, g4, g5, g6⟩ := hr.blk i k' b o sz hi hl (oldp i _ hp he)
   exact ⟨h1, arr, e, fr, g1, g2, g3, g4, g5, VRs.mono hle g6⟩
 ·intro i k' hi hl hp
  by_cases he : i = A.length
  ·subst he
   rw [at_] at hi
   cases hi
   rw [Fj] at hp
   cases hp
   exact hb
  ·rw [same i he] at hi
   exact hr.nil i k' hi hl (oldp i _ hp he)
 ·intro i i' k1 k2 b o sz o' sz' h1 h2 l1 l2 p1 p2
  by_cases he : i = A.length
  ·by_cases he' : i' = A.length
   ·omega
   ·subst he
    rw [Fj] at p1
    cases p1
    rw [same i' he'] at h2
    exact absurd (oldp i' _ p2 he') (hb.2 i' k2 o' sz' h2 l2)
  ·by_cases he' : i' = A.length
   ·subst he'
    rw [Fj] at p2
    cases p2
    rw [same i he] at h1
    exact absurd (oldp i _ p1 he) (hb.2 i k1 o sz h1 l1)
   ·rw [same i he] at h1
    rw [same i' he'] at h2
    exact hr.inj i i' k1 k2 b o sz o' sz' h1 h2 l1 l2 (oldp i _ p1 he) (oldp i' _ p2 he')
 ·intro i q hq
  by_cases he : i = A.length
  ·subst he; simp
  ·have := hr.dom i q (oldp i _ hq he)
   simpa using this
variable {wc w0 w : World} {φc : Ee}
def AaE (φc : Ee) (ids : List Nat) (φ : Ee) (H : Ab) : Prop := ∀ id ∈ ids, ∀ b o sz, φc id = some (.pt b o sz) → ∀ q k o' sz', H[q]? = some k → k.live = true → φ q ≠ some (.pt b o' sz')
structure Laid (φc : Ee) (ids : List Nat) (φ φ' : Ee) (H B : Ab) : Prop where
 le : PLe φ φ'
 old : ∀ q, q < H.length → φ' q = φ q
 new : ∀ q k b o sz, (H ++ B)[q]? = some k → k.live = true → φ' q = some (.pt b o sz) → (q < H.length ∧ φ q = some (.pt b o sz)) ∨ ∃ id ∈ ids, ∃ o' sz', φc id = some (.pt b o' sz')
theorem Uk (hc : HR wc φc w Hc) {f : Nat → AV → Option (AV × List Nat)} (hlive : ∀ ty x t ids, f ty x = some (t, ids) → ∀ id ∈ ids, ∃ k, Hc[id]? = some k ∧ k.live = true)
  (hf : ∀ (ty : Nat) (x t : AV) (ids : List Nat) (u : Value) (H : Ab) (φ : Ee), f ty x = some (t, ids) → VR wc φc x u → ids.Nodup → HR w0 φ w H → AaE φc ids φ H →
   ∃ φ', HR w0 φ' w (H ++ (Bk ti tp H.length ty t).2) ∧ VR w0 φ' (Bk ti tp H.length ty t).1 u ∧ Laid φc ids φ φ' H (Bk ti tp H.length ty t).2) :
  ∀ (ts : List Nat) (xs : List AV) (q : List AV × List Nat) (g : Nat → Option Value) (H : Ab) (φ : Ee), Di f ts xs = some q → VRs wc φc xs g → q.2.Nodup → HR w0 φ w H → AaE φc q.2 φ H →
   ∃ φ', HR w0 φ' w (H ++ (Ap ti tp H.length ts q.1).2) ∧ VRs w0 φ' (Ap ti tp H.length ts q.1).1 g ∧ Laid φc q.2 φ φ' H (Ap ti tp H.length ts q.1).2
 | [], [], q, g, H, φ, h, hx, hn, hr, ha => by
  simp only [Di, Option.some.injEq] at h
  subst h
  simp only [Ap, zam]
  refine ⟨φ, hr, by rw [VRs]; trivial, PLe.refl _, fun _ _ => rfl, fun q k b o sz h1 h2 h3 => .inl ⟨?_, h3⟩⟩
  exact hr.dom q _ h3
 | [], _ :: _, q, g, H, φ, h, _, _, _, _ => by cases h
 | _ :: _, [], q, g, H, φ, h, _, _, _, _ => by cases h
 | ty :: ts, x :: xs, q, g, H, φ, h, hx, hn, hr, ha => by
  simp only [Di, zab, Option.some.injEq] at h
  obtain ⟨p, hp, q', hq, rfl⟩ := h
  rw [VRs] at hx
  obtain ⟨⟨u, hu1, hu2⟩, hxs⟩ := hx
  have hnd := zbf.1 hn
  obtain ⟨φ1, a1, a2, a3⟩ := hf ty x p.1 p.2 u H φ hp hu2 hnd.1 hr (fun id hid => ha id (za8 _ hid))
  have hap : AaE φc q'.2 φ1 (H ++ (Bk ti tp H.length ty p.1).2) := by
   intro id hid b o sz hpl qq k o' sz' hk hl hq2
   rcases a3.new qq k b o' sz' hk hl hq2 with ⟨hlt, h4⟩ | ⟨id', hid', o2, sz2, h4⟩
   ·rw [zal hlt] at hk
    exact ha id (zaE _ hid) b o sz hpl qq k o' sz' hk hl h4
   ·obtain ⟨k1, e1, l1⟩ := Qx hlive ts xs q' hq id hid
    obtain ⟨k2, e2, l2⟩ := hlive ty x p.1 p.2 hp id' hid'
    have := hc.inj id id' k1 k2 b o sz o2 sz2 e1 e2 l1 l2 hpl h4
    subst this
    exact hnd.2.2 id hid' id hid rfl
  obtain ⟨φ2, b1, b2, b3⟩ := Uk hc hlive hf ts xs q' _ (H ++ (Bk ti tp H.length ty p.1).2) φ1 hq hxs hnd.2.1 a1 hap
  simp only [Ap, List.headD_cons, List.tail_cons, zae, zaf] at b1 b2 b3 ⊢
  refine ⟨φ2, b1, ?_, PLe.trans a3.le b3.le, ?_, ?_⟩
  ·rw [VRs]
   exact ⟨⟨u, hu1, VR.mono b3.le a2⟩, b2⟩
  ·intro qq hqq
   rw [b3.old qq (by simp; omega), a3.old qq hqq]
  ·intro qq k b o sz hk hl hpl
   rcases b3.new qq k b o sz (by simpa using hk) hl hpl with ⟨hlt, h4⟩ | ⟨id, hid, o2, sz2, h4⟩
   ·rw [← zaf, zal hlt] at hk
    rcases a3.new qq k b o sz hk hl h4 with h5 | ⟨id, hid, o2, sz2, h5⟩
    ·exact .inl h5
    ·exact .inr ⟨id, za8 _ hid, o2, sz2, h5⟩
   ·exact .inr ⟨id, zaE _ hid, o2, sz2, h4⟩
theorem W3 (hc : HR wc φc w Hc) (h0 : w0.heap.size ≤ wc.heap.size) : ∀ (d : Nat) (ty : Nat) (x t : AV) (ids : List Nat) (u : Value) (H : Ab) (φ : Ee), Cz ti tp Hc d ty x = some (t, ids) → VR wc φc x u → ids.Nodup → HR w0 φ w H → AaE φc ids φ H →
   ∃ φ', HR w0 φ' w (H ++ (Bk ti tp H.length ty t).2) ∧ VR w0 φ' (Bk ti tp H.length ty t).1 u ∧ Laid φc ids φ φ' H (Bk ti tp H.length ty t).2
 | 0, ty, x, t, ids, u, H, φ, h, _, _, _, _ => by cases h
 | d + 1, ty, x, t, ids, u, H, φ, h, hx, hn, hr, ha => by
  have ih := Uk (w0 := w0) (ti := ti) (tp := tp) hc (fun ty x t ids => Sv d ty x t ids) (fun ty x t ids u H φ => W3 hc h0 d ty x t ids u H φ)
  cases x <;> simp only [Cz] at h <;> try cases h
  ·rw [VR] at hx
   subst hx
   simp only [Bk, zam]
   exact ⟨φ, hr, Gk _ _ _, PLe.refl _, fun _ _ => rfl, fun q k b o sz h1 h2 h3 => .inl ⟨hr.dom q _ h3, h3⟩⟩
  ·rw [VR] at hx
   obtain ⟨A, rfl⟩ := hx
   simp only [Bk, Ap, List.replicate_zero, zbA]
   refine ⟨Vk φ H.length .nl, hr.nilblk, ?_, Jf hr.fresh, fun q hq => ?_, fun q k b o sz h1 h2 h3 => ?_⟩
   ·rw [VR]
    exact .inl ⟨Fj _ _ _, rfl, rfl, A, rfl⟩
   ·unfold Vk; rw [if_neg (by omega)]
   ·unfold Vk at h3
    split at h3
    ·cases h3
    ·exact .inl ⟨hr.dom q _ h3, h3⟩
  ·rename_i id off n z
   obtain ⟨i, hi, h⟩ := zab.1 h
   obtain ⟨j, hj, h⟩ := zab.1 h
   split at h
   case isFalse => cases h
   rename_i hz
   split at h
   case isFalse => cases h
   rename_i happ
   obtain ⟨cs, hcs, h⟩ := zab.1 h
   obtain ⟨q, hq, h⟩ := zab.1 h
   cases h
   obtain ⟨hl, k0, hk0, hlv, hle, hcs0⟩ := I9 hcs
   have happ0 : k0.app = true := by simpa [Jj, hk0] using happ
   have hnd := zbr.1 hn
   have hr1 := hr.deadblk ⟨[], false, true⟩ rfl
   have hj' : (((ti ty).bind fun i => ti i.elem).getD default) = j := by rw [hi]; simp [hj]
   have hfresh := hr.fresh
   have hap1 : AaE φc q.2 φ (H ++ [⟨[], false, true⟩]) := by
    intro id' hid b o sz hpl qq k o' sz' hk hl hq2
    have hlt : qq < H.length := hr.dom qq _ hq2
    rw [zal hlt] at hk
    exact ha id' (zav _ hid) b o sz hpl qq k o' sz' hk hl hq2
   simp only [Bk, hj']
   have key : ∀ (g : Nat → Option Value) (p : Pl) (hg : VRs wc φc cs g), (∀ φ1, PLe φ φ1 → (match p with
      | .nl => True
      | .pt b o sz => (∃ o2, φc id = some (.pt b o2 sz)) ∧ ∀ cells, cells.length = cs.length → VRs w0 φ1 cells g → Ajf w0 φ1 w ⟨cells, true, true⟩ b o sz)) → (p = .nl → cs = []) →
     (∀ φ', φ' H.length = some p → SlR φ' H.length 0 n j.size u) →
     ∃ φ', HR w0 φ' w (H ++ (⟨(Ap ti tp (H.length + 1) (zak n j.cty).flatten q.1).1, true, true⟩ :: (Ap ti tp (H.length + 1) (zak n j.cty).flatten q.1).2)) ∧ VR w0 φ' (.sl H.length 0 n j.size) u ∧
      Laid φc (id :: q.2) φ φ' H (⟨(Ap ti tp (H.length + 1) (zak n j.cty).flatten q.1).1, true, true⟩ :: (Ap ti tp (H.length + 1) (zak n j.cty).flatten q.1).2) := by
    intro g p hg hp hnl hsl
    obtain ⟨φ1, a1, a2, a3⟩ := ih _ cs q g (H ++ [⟨[], false, true⟩]) φ hq hg hnd.2 hr1 hap1
    have hH1 : (H ++ [(⟨[], false, true⟩ : Iu)]).length = H.length + 1 := by simp
    rw [hH1] at a1 a2 a3
    rw [zaf] at a1
    have hn1 : φ1 H.length = none := by rw [a3.old H.length (by simp)]; exact hfresh
    have hlen : (Ap ti tp (H.length + 1) (zak n j.cty).flatten q.1).1.length = cs.length := W2 hq
    have hwake : HR w0 (Vk φ1 H.length p) w (H ++ (⟨(Ap ti tp (H.length + 1) (zak n j.cty).flatten q.1).1, true, true⟩ :: (Ap ti tp (H.length + 1) (zak n j.cty).flatten q.1).2)) := by
     refine HR.wake a1 hn1 ?_
     have hp1 := hp φ1 a3.le
     cases p with
     | nl => exact zar (by rw [hlen, hnl rfl]; rfl)
     | pt b o sz =>
      obtain ⟨⟨o2, hpl⟩, hbl⟩ := hp1
      refine ⟨hbl _ hlen a2, ?_⟩
      intro qq k' o' sz' hk hl hq2
      have hk' : ((H ++ [(⟨[], false, true⟩ : Iu)]) ++ (Ap ti tp (H.length + 1) (zak n j.cty).flatten q.1).2)[qq]? = some k' := by rw [zaf]; exact hk
      rcases a3.new qq k' b o' sz' hk' hl hq2 with ⟨hlt, h4⟩ | ⟨id', hid', o3, sz3, h4⟩
      ·have hlt2 := hr.dom qq _ h4
       rw [zaf, zal hlt2] at hk'
       exact ha id za1 b o2 sz hpl qq k' o' sz' hk' hl h4
      ·obtain ⟨k2, e2, l2⟩ := Qx (Hc := Hc) (fun ty x t ids => Sv d ty x t ids) _ _ _ hq id' hid'
       have := hc.inj id id' k0 k2 b o2 sz o3 sz3 hk0 e2 hlv l2 hpl h4
       subst this
       exact hnd.1 hid'
    refine ⟨Vk φ1 H.length p, hwake, ?_, PLe.trans a3.le (Jf hn1), ?_, ?_⟩
    ·rw [VR]
     exact hsl _ (Fj _ _ _)
    ·intro qq hqq
     unfold Vk
     rw [if_neg (by omega)]
     exact a3.old qq (by simp; omega)
    ·intro qq k b o sz hk hl hpl
     by_cases he : qq = H.length
     ·subst he
      rw [Fj] at hpl
      cases hpl
      obtain ⟨⟨o2, hpl2⟩, _⟩ := hp φ1 a3.le
      exact .inr ⟨id, za1, o2, sz, hpl2⟩
     ·unfold Vk at hpl
      rw [if_neg he] at hpl
      have hk' : ((H ++ [(⟨[], false, true⟩ : Iu)]) ++ (Ap ti tp (H.length + 1) (zak n j.cty).flatten q.1).2)[qq]? = some k := by
       by_cases hlt : qq < H.length
       ·rw [zaf, zal hlt]
        rw [zal hlt] at hk
        exact hk
       ·rw [zaj (by omega)] at hk
        rw [zaf, zaj (by omega)]
        cases hq2 : qq - H.length with
        | zero => omega
        | succ m => rw [hq2] at hk; simpa using hk
      rcases a3.new qq k b o sz hk' hl hpl with ⟨hlt, h4⟩ | ⟨id', hid', o3, sz3, h4⟩
      ·exact .inl ⟨hr.dom qq _ h4, h4⟩
      ·exact .inr ⟨id', zav _ hid', o3, sz3, h4⟩
   subst hz
   rw [VR] at hx
   rcases hx with ⟨hpl, rfl, rfl, A, rfl⟩ | ⟨b, o, sz, hpl, hx⟩
   ·have hcs0 : cs = [] := zar (by rw [hl]; simp)
    exact key (fun _ => none) .nl (by rw [hcs0, VRs]; trivial) (fun _ _ => trivial) (fun _ => hcs0) (fun φ' hφ => .inl ⟨hφ, rfl, rfl, A, rfl⟩)
   ·obtain ⟨hv1, hv2⟩ := Ny hc hcs hpl
    obtain ⟨hb, arr, e, fr, h1, h2, h3, h4, h5, h6⟩ := hc.blk id k0 b o sz hk0 hlv hpl
    refine key _ (.pt b (o + off) sz) hv2 (fun φ1 _ => ⟨⟨o, hpl⟩, fun cells hcl hcv => ?_⟩) (fun h => by cases h) (fun φ' hφ => .inr ⟨b, o + off, sz, hφ, ?_⟩)
    ·refine ⟨zaA h0 hb, arr, e, fr, h1, h2, by simp [hcl]; omega, fun _ => h4 happ0, .inl (h4 happ0), ?_⟩
     rw [Df] at hcv ⊢
     intro qq y hqq
     obtain ⟨uu, e1, e2⟩ := hcv qq y hqq
     simp only [World.cell?, h1] at e1
     exact ⟨uu, by simpa using e1, e2⟩
    ·rcases hx with ⟨rfl, A, rfl⟩ | ⟨c, hc1, rfl, hfit⟩
     ·exact .inl ⟨rfl, A, rfl⟩
     ·exact .inr ⟨c, hc1, rfl, hfit⟩
  ·obtain ⟨i, hi, h⟩ := zab.1 h
   obtain ⟨q, hq, h⟩ := zab.1 h
   cases h
   rw [VR] at hx
   obtain ⟨xs, rfl, h1, h2⟩ := hx
   obtain ⟨φ', a1, a2, a3⟩ := ih _ _ q _ H φ hq h2 hn hr ha
   simp only [Bk, hi, zaG]
   refine ⟨φ', a1, ?_, a3⟩
   rw [VR]
   refine ⟨xs, rfl, ?_, a2⟩
   rw [h1]
   exact (W2 hq).symm
  ·obtain ⟨i, hi, h⟩ := zab.1 h
   obtain ⟨q, hq, h⟩ := zab.1 h
   cases h
   rw [VR] at hx
   obtain ⟨xs, rfl, h1, h2⟩ := hx
   obtain ⟨φ', a1, a2, a3⟩ := ih _ _ q _ H φ hq h2 hn hr ha
   simp only [Bk, hi, zaG]
   refine ⟨φ', a1, ?_, a3⟩
   rw [VR]
   refine ⟨xs, rfl, ?_, a2⟩
   rw [h1]
   exact (W2 hq).symm
end own
end
section
open Go Go.RowKit
variable {P : Program}
def Al1 (P : Program) (E : O9) (J : World → Prop) : Prop :=
 ∀ (f : FuncId) (g : Nat → List AV → Option AV), E.ext f = some g → ∀ (w : World), J w → ∀ (ty : Nat) (vs : List AV) (us : List Value) (t : AV), us.length = vs.length → VRs w Gw vs (fun j => us[j]?) → g ty vs = some t →
  CX P f us.toArray w fun u w' => ∃ φ' Hc v ids, HR w φ' w' Hc ∧ VR w φ' v u ∧ Cz E.ti E.tp Hc 8 ty v = some (t, ids) ∧ ids.Nodup
def Ap3 (P : Program) (E : O9) : Prop :=
 ∀ (f : FuncId) (q : Bool × Nat × Nat), E.xk f = some q → ∀ (β : Type) (w0 : World) (φ : Ee) (w : World) (H : Ab) (args : List AV) (us : List Value) (k : KO β) (r : β), pXk q args H k = some r → HR w0 φ w H → us.length = args.length → VRs w0 φ args (fun j => us[j]?) →
  (callFunc f us.toArray).run P w = .ok (.enter f us.toArray) w ∧ Calls P f us.toArray w fun e w' => ∃ u, e = .returned u ∧ Left w0 φ k r u w'
structure AaF (P : Program) (E : O9) (J : World → Prop) : Prop where
 tab : J8 P E.ti
 byte : ∀ t i, E.ti t = some i → i.ik = some .u8 → i.size = 1
 mixed : P.follows .mixedOrders = true
 fns : ∀ f i, E.fs f = some i → Amj P E f i
 ext : Al1 P E J
 xk : Ap3 P E
 stays : ∀ w w' : World, J w → Below w.heap.size w w' → J w'
theorem HR.start (w : World) : HR w Gw w [] := by
 refine ⟨Below.refl _ _, ?_, ?_, ?_, ?_⟩
 ·intro i k b o sz hi
  cases hi
 ·intro i k hi
  cases hi
 ·intro i i' k k' b o sz o' sz' hi
  cases hi
 ·intro i p hp
  cases hp
theorem Ov {E : O9} {w0 w w' : World} {φ φc : Ee} {H Hc : Ab} (hr : HR w0 φ w H) (hc : HR w φc w' Hc) {ty : Nat} {v t : AV} {ids : List Nat} {u : Value} (hv : VR w φc v u) (ho : Cz E.ti E.tp Hc 8 ty v = some (t, ids)) (hn : ids.Nodup)
  {β : Type} {k : KO β} {r : β} (hk : k (Bk E.ti E.tp H.length ty t).1 (H ++ (Bk E.ti E.tp H.length ty t).2) = some r) : Left w0 φ k r u w' ∧ Below w.heap.size w w' := by
 refine ⟨?_, hc.bel⟩
 obtain ⟨φ', h1, h2, h3⟩ := W3 hc hr.bel.size 8 ty v t ids u H φ ho hv hn (hr.later hc.bel) (by
  intro id hid b o sz hpl q k o' sz' hk hl hq
  obtain ⟨k1, e1, l1⟩ := Sv 8 ty v t ids ho id hid
  have g1 := (hc.blk id k1 b o sz e1 l1 hpl).1
  obtain ⟨_, arr, e, fr, g2, _⟩ := hr.blk q k b o' sz' hk hl hq
  have := (zaB.1 g2).1
  omega)
 exact ⟨_, φ', _, hk, h3.le, h1, h2⟩
theorem Wv {E : O9} {J : World → Prop} (h : AaF P E J) {n : Nat} {w0 : World} (ih : N8 P E (Dy E n) w0) {β : Type} {f : FuncId} {args : List AV} {H : Ab} {k : KO β} {r : β} {w : World} {φ : Ee} {us : List Value} (he : Dy E (n + 1) β f args H k = some r) (hr : HR w0 φ w H)
  (hl : us.length = args.length) (ha : VRs w0 φ args (fun j => us[j]?)) : (callFunc f us.toArray).run P w = .ok (.enter f us.toArray) w ∧ Calls P f us.toArray w fun e w' => ∃ u, e = .returned u ∧ Left w0 φ k r u w' := by
 simp only [Dy] at he
 split at he
 ·rename_i i hi
  split at he
  ·rename_i hle
   exact Ace h.tab h.byte ih h.mixed (h.fns f i hi) he hr hl (Cr hle) ha
  ·cases he
 ·split at he
  ·rename_i q hq
   exact h.xk f q hq β w0 φ w H args us k r he hr hl ha
  ·cases he
theorem Ajn {E : O9} {J : World → Prop} (h : AaF P E J) : ∀ n w0, J w0 → N8 P E (Dy E n) w0 := by
 intro n
 induction n with
 | zero =>
  intro w0 hj β ty f args H k r φ w us hcall hr hl ha
  have hjw := h.stays w0 w hj hr.bel
  unfold Ms at hcall
  split at hcall
  ·rename_i g hg
   simp only [Adm, zab] at hcall
   obtain ⟨vs, hvs, t, ht, hk⟩ := hcall
   refine (h.ext f g hg w hjw ty vs us t (by rw [hl, (H8 hvs).1]) (Qh hr hvs ha) ht).mono fun u w' ⟨φc, Hc, v, ids, q1, q2, q3, q4⟩ => ?_
   obtain ⟨g1, g2⟩ := Ov hr q1 q2 q3 q4 hk
   exact ⟨g1, fun _ => g2⟩
  ·split at hcall
   ·cases hcall
   ·simp only [AaS, T2, zab] at hcall
    obtain ⟨vs, hvs, t, ht, hk⟩ := hcall
    cases ht
 | succ n ih =>
  intro w0 hj β ty f args H k r φ w us hcall hr hl ha
  have hjw := h.stays w0 w hj hr.bel
  unfold Ms at hcall
  split at hcall
  ·rename_i g hg
   simp only [Adm, zab] at hcall
   obtain ⟨vs, hvs, t, ht, hk⟩ := hcall
   refine (h.ext f g hg w hjw ty vs us t (by rw [hl, (H8 hvs).1]) (Qh hr hvs ha) ht).mono fun u w' ⟨φc, Hc, v, ids, q1, q2, q3, q4⟩ => ?_
   obtain ⟨g1, g2⟩ := Ov hr q1 q2 q3 q4 hk
   exact ⟨g1, fun _ => g2⟩
  ·rename_i hg
   split at hcall
   ·rename_i hh
    obtain ⟨g1, g2⟩ := Wv h (ih w0 hj) hcall hr hl ha
    refine .inr ⟨g1, g2.mono fun e w' ⟨u, q1, q2⟩ => ⟨u, q1, q2, fun hcalm => ?_⟩⟩
    simp [Aga, hg, hh] at hcalm
   ·simp only [AaS, T2, zab] at hcall
    obtain ⟨vs, hvs, t, ht, hk⟩ := hcall
    obtain ⟨g1, g2⟩ := Wv h (ih w hjw) ht (HR.start w) (by rw [hl, (H8 hvs).1]) (Qh hr hvs ha)
    refine .inr ⟨g1, g2.mono fun e w' ⟨u, q1, v, φc, Hc, q2, q3, q4, q5⟩ => ⟨u, q1, ?_⟩⟩
    simp only [A4, zab] at q2
    obtain ⟨p, hp, q2⟩ := q2
    split at q2
    ·rename_i hnd
     cases q2
     obtain ⟨g3, g4⟩ := Ov hr q4 q5 hp hnd hk
     exact ⟨g3, fun _ => g4⟩
    ·cases q2
theorem Ada {E : O9} {J : World → Prop} (h : AaF P E J) {n ty : Nat} {f : FuncId} {args : List AV} {t : AV} (ht : Cb E n ty f args = some t) {w : World} (hj : J w) {us : List Value} (hl : us.length = args.length) (ha : VRs w Gw args (fun j => us[j]?)) :
  Calls P f us.toArray w fun e w' => ∃ u, e = .returned u ∧ Below w.heap.size w w' ∧ ∃ φ' Hc v ids, HR w φ' w' Hc ∧ VR w φ' v u ∧ Cz E.ti E.tp Hc 8 ty v = some (t, ids) ∧ ids.Nodup := by
 cases n with
 | zero => cases ht
 | succ n =>
  obtain ⟨g1, g2⟩ := Wv h (Ajn h n w hj) ht (HR.start w) hl ha
  refine g2.mono fun e w' ⟨u, q1, v, φc, Hc, q2, q3, q4, q5⟩ => ⟨u, q1, q4.bel, ?_⟩
  simp only [A4, zab] at q2
  obtain ⟨p, hp, q2⟩ := q2
  split at q2
  ·rename_i hnd
   cases q2
   exact ⟨φc, Hc, v, p.2, q4, q5, hp, hnd⟩
  ·cases q2
theorem Xo {ti : Nat → Option TI} {tp : Nat → Option (List Nat)} {Hc : Ab} {d ty : Nat} {v : AV} {x : Value} {ids : List Nat} (h : Cz ti tp Hc d ty v = some (.sc x, ids)) : v = .sc x := by
 cases d with
 | zero => cases h
 | succ d =>
  cases v <;> simp only [Cz] at h <;> try cases h
  ·rfl
  ·obtain ⟨i, _, h⟩ := zab.1 h
   obtain ⟨j, _, h⟩ := zab.1 h
   split at h
   ·split at h
    ·obtain ⟨cs, _, h⟩ := zab.1 h
     obtain ⟨q, _, h⟩ := zab.1 h
     cases h
    ·cases h
   ·cases h
  ·obtain ⟨i, _, h⟩ := zab.1 h
   obtain ⟨q, _, h⟩ := zab.1 h
   cases h
  ·obtain ⟨i, _, h⟩ := zab.1 h
   obtain ⟨q, _, h⟩ := zab.1 h
   cases h
theorem AfJ {E : O9} {J : World → Prop} (h : AaF P E J) {n ty : Nat} {f : FuncId} {args : List AV} {b : Bool} (ht : Cb E n ty f args = some (.sc (.bool b))) {w : World} (hj : J w) {us : List Value} (hl : us.length = args.length) (ha : VRs w Gw args (fun j => us[j]?)) :
  Calls P f us.toArray w fun e w' => e = .returned (.bool b) ∧ Below w.heap.size w w' := by
 refine (Ada h ht hj hl ha).mono fun e w' ⟨u, q1, q2, φc, Hc, v, ids, q3, q4, q5, q6⟩ => ?_
 have := Xo q5
 subst this
 rw [VR] at q4
 subst q4
 exact ⟨q1, q2⟩
end
section
open Go Go.RowKit
variable {P : Program}
def eqZ : Value → Value → Bool
 | .int k n, .int k' n' => k == k' && n == n'
 | .bool a, .bool b => a == b
 | .string a, .string b => a.data.toList == b.data.toList
 | .slice none 0 0, .slice none 0 0 => true
 | .pointer none, .pointer none => true
 | .nilFunc, .nilFunc => true
 | .nilIface, .nilIface => true
 | _, _ => false
theorem Am2 {a b : Value} (h : eqZ a b = true) : a = b := by
 unfold eqZ at h
 split at h
 all_goals first
  | rfl
  | (simp only [zag, beq_iff_eq] at h; obtain ⟨rfl, rfl⟩ := h; rfl)
  | (simp only [beq_iff_eq] at h; subst h; rfl)
  | (simp only [beq_iff_eq] at h; congr 1; apply zbO; exact zbk h)
  | cases h
def Ajs : List Value → List Value → Bool
 | [], [] => true
 | x :: xs, y :: ys => eqZ x y && Ajs xs ys
 | _, _ => false
theorem Adp : ∀ {xs ys : List Value}, Ajs xs ys = true → xs = ys
 | [], [], _ => rfl
 | x :: xs, y :: ys, h => by
  simp only [Ajs, zag] at h
  rw [Am2 h.1, Adp h.2]
 | [], _ :: _, h => by cases h
 | _ :: _, [], h => by cases h
def AiT (P : Program) (t : TypeId) (i : TI) : Bool :=
 (match P.info? t with
  | some inf => inf.size == i.size && inf.bytes == i.bytes && (match inf.zero with | some z => Ajs z.cells.toList i.zero | none => false)
  | none => false) &&
 (match P.underlying t with | some d => Gg i d | none => false) && (i.zero.length == i.size) && (0 < i.size) && (0 < i.bytes) && i.zero.all Mz && i.fields.all (fun q => (P.info? q.2).isSome) && (!i.eqs || (i.isAgg && !P.stoodInHeld t && !P.eqGuardType P.depth t && (P.fieldsOf t).toList.all fun f => f.name != "_"))
theorem AiU {t : TypeId} {i : TI} (h : AiT P t i = true) : TOk P t i := by
 simp only [AiT, zag] at h
 obtain ⟨⟨⟨⟨⟨⟨⟨h1, h2⟩, h3⟩, h4⟩, h5⟩, h6⟩, h7⟩, h8⟩ := h
 split at h1
 ·rename_i inf hi
  simp only [zag] at h1
  obtain ⟨⟨g1, g2⟩, g3⟩ := h1
  split at g3
  ·rename_i z hz
   split at h2
   ·rename_i d hd
    exact ⟨⟨inf, hi, by simpa using g1, by simpa using g2, z, hz, Adp g3⟩, ⟨d, hd, h2⟩, by simpa using h3, by simpa using h4, by simpa using h5, fun v hv => za9.1 h6 v hv,
     fun q hq => by have := za9.1 h7 q hq; exact Option.isSome_iff_exists.1 this,
     fun hq => by
      rw [hq] at h8
      simp only [zau, za7, zag, Bool.not_eq_true', za9] at h8
      exact ⟨h8.1.1.1, h8.1.1.2, h8.1.2, fun f hf => by simpa using h8.2 f hf⟩⟩
   ·cases h2
  ·cases g3
 ·cases h1
def AiQ (P : Program) : Nat → List (Option TI) → Bool
 | _, [] => true
 | t, o :: l => (match o with | some i => AiT P t i && (match i.ik with | some .u8 => i.size == 1 | _ => true) | none => true) && AiQ P (t + 1) l
theorem AaA : ∀ (l : List (Option TI)) (s t : Nat) (i : TI), AiQ P s l = true → l[t]? = some (some i) → TOk P (s + t) i ∧ (i.ik = some .u8 → i.size = 1)
 | [], s, t, i, _, h => by simp at h
 | o :: l, s, 0, i, hB, h => by
  simp only [zbi, Option.some.injEq] at h
  subst h
  simp only [AiQ, zag] at hB
  refine ⟨AiU hB.1.1, fun hk => ?_⟩
  have := hB.1.2
  rw [hk] at this
  simpa using this
 | o :: l, s, t + 1, i, hB, h => by
  simp only [AiQ, zag] at hB
  have := AaA l (s + 1) t i hB.2 (by simpa using h)
  rwa [show s + 1 + t = s + (t + 1) by omega] at this
def AhT (E : O9) : List (Option E7) → Bool
 | [] => true
 | o :: l => (match o with | some i => K3 E i.ords i.ntmps i.body | none => true) && AhT E l
theorem Ad8 {E : O9} : ∀ {l : List (Option E7)} {f : Nat} {i : E7}, AhT E l = true → l[f]? = some (some i) → K3 E i.ords i.ntmps i.body = true
 | o :: l, 0, i, h, hf => by
  simp only [zbi, Option.some.injEq] at hf
  subst hf
  simp only [AhT, zag] at h
  exact h.1
 | o :: l, f + 1, i, h, hf => by
  simp only [AhT, zag] at h
  exact Ad8 h.2 (by simpa using hf)
 | [], f, i, h, hf => by simp at hf
end
section
open Go Go.RowKit
variable {P : Program} {H : Type}
mutual
def dC : DataW H → List AV
 | .lit l => [.sc (match l with | .bool b => .bool b | .int k n => .int k n | .string bs => .string ⟨bs.toArray⟩ | _ => undef)]
 | .nil => [.ro 0 []]
 | .slice es _ => [.ro es.length (dCs es)]
 | .agg ps => dCs ps
 | _ => [.any]
def dCs : List (DataW H) → List AV
 | [] => []
 | d :: ds => dC d ++ dCs ds
end
def Ai4 (f : Nat → List AV → Prop) : List (Nat × Nat) → List AV → Prop
 | [], cs => cs = []
 | (_, t) :: fs, cs => ∃ a b, cs = a ++ b ∧ f t a ∧ Ai4 f fs b
def okT (ti : Nat → Option TI) : Nat → Nat → List AV → Prop
 | 0, _, _ => False
 | n + 1, ty, cs => ∃ i, ti ty = some i ∧
  match i.isB, i.ik, i.isStr, i.sl, i.isAgg with
  | true, _, _, _, _ => ∃ b, cs = [.sc (.bool b)]
  | _, some k, _, _, _ => ∃ n, cs = [.sc (.int k n)] ∧ (Lit.int k n).wf = true
  | _, _, true, _, _ => ∃ s : ByteArray, cs = [.sc (.string s)] ∧ s.size ≤ maxLen
  | _, _, _, true, _ => ∃ rows : List (List AV), cs = [.ro rows.length rows.flatten] ∧ rows.length ≤ maxLen ∧ ∀ r ∈ rows, okT ti n i.elem r
  | _, _, _, _, true => Ai4 (okT ti n) i.fields cs
  | _, _, _, _, _ => False
def Mt (ti : Nat → Option TI) : List (Nat × Nat) → Nat → Nat → Bool
 | [], o, total => o == total
 | (f, t) :: r, o, total => f == o && (match ti t with | some j => Mt ti r (o + j.size) total | none => false)
def tyB (ti : Nat → Option TI) : Nat → Nat → Bool
 | 0, _ => false
 | n + 1, t => match ti t with
  | some i => i.isB || i.ik.isSome || i.isStr || (i.sl && tyB ti n i.elem) || (i.isAgg && Mt ti i.fields 0 i.size && i.fields.all fun q => tyB ti n q.2)
  | none => false
theorem TOk.cells {t : TypeId} {i : TI} (h : TOk P t i) : P.cellsOf t = i.size := by
 obtain ⟨inf, h1, h2, _⟩ := h.info
 simp [Program.cellsOf, h1, h2]
theorem Y4 (ti : Nat → Option TI) : ∀ (fs : List (Nat × Nat)) (o total : Nat), Mt ti fs o total = true → o ≤ total
 | [], o, total, h => by
  have : o = total := by simpa [Mt] using h
  omega
 | (f, t) :: fs, o, total, h => by
  simp only [Mt, zag] at h
  obtain ⟨_, h⟩ := h
  split at h
  ·have := Y4 ti fs _ total h
   omega
  ·cases h
section
variable {enc : TypeId × Value → H} {w : World} {base : Nat} {spare : Nat → Bool} {held : Bool}
theorem Aej {a : Addr} {n : Nat} {cs : List Value} (h : w.cells? base a n = some cs) : cs.length = n ∧ ∀ j, j < n → w.cell? (a.add j) = cs[j]? := by
 unfold World.cells? at h
 split at h
 ·have key : ∀ (l : List Nat) (cs : List Value), (l.mapM fun i => w.cell? (a.add i)) = some cs → cs.length = l.length ∧ ∀ (j : Nat) i, l[j]? = some i → w.cell? (a.add i) = cs[j]? := by
   intro l
   induction l with
   | nil => intro cs h; simp at h; subst h; exact ⟨rfl, fun j i h => by simp at h⟩
   | cons x l ih =>
    intro cs h
    simp only [zaI, zbh, zaP, zab, Option.some.injEq] at h
    obtain ⟨v, hv, cs', hcs, rfl⟩ := h
    obtain ⟨g1, g2⟩ := ih cs' hcs
    refine ⟨by simp [g1], fun j i hj => ?_⟩
    cases j with
    | zero => simp at hj; subst hj; simpa using hv
    | succ j => simpa using g2 j i (by simpa using hj)
  obtain ⟨g1, g2⟩ := key _ _ h
  exact ⟨by simpa using g1, fun j hj => g2 j j (by simp [hj])⟩
 ·cases h
theorem V2 : ∀ (ds : List (DataW H)), dCs ds = (ds.map dC).flatten
 | [] => by simp [dCs]
 | d :: ds => by simp [dCs, V2 ds]
theorem AaI {w0 : World} {φ : Ee} {sz : Nat} : ∀ (rows : List (List AV)) (s : Nat) (g : Nat → Option Value), (∀ (i : Nat) r, rows[i]? = some r → r.length = sz ∧ VRs w0 φ r (fun j => g ((s + i) * sz + j))) → VRs w0 φ rows.flatten (fun j => g (s * sz + j))
 | [], s, g, _ => by simp [VRs]
 | r :: rows, s, g, h => by
  rw [za3]
  obtain ⟨h1, h2⟩ := h 0 r rfl
  refine Oc (by simpa using h2) ?_
  have ih := AaI rows (s + 1) g (fun i r hr => by
   have := h (i + 1) r (by simpa using hr)
   rwa [show s + (i + 1) = s + 1 + i by omega] at this)
  rw [h1]
  have e : ∀ j, s * sz + (sz + j) = (s + 1) * sz + j := by intro j; rw [zb3]; omega
  simpa only [e] using ih
theorem R9 {ti : Nat → Option TI} (hT : J8 P ti) {n f : Nat} {cs : List Value} (ih : ∀ (t fuel : Nat) (cs : List Value) (d : DataW H) (ps : List MemPlace), DataW.trod enc P w base spare held fuel t cs = some (d, ps) → tyB ti n t = true →
  (dC d).length = cs.length ∧ VRs w Gw (dC d) (fun j => cs[j]?) ∧ okT ti n t (dC d)) :
  ∀ (fs : List Field) (xs : List (DataW H × List MemPlace)) (o : Nat), Mt ti (fs.map fun q => (q.offset, q.type)) o cs.length = true → (∀ q ∈ fs, tyB ti n q.type = true) → xs.length = fs.length →
   (∀ (i : Nat) q, fs[i]? = some q → DataW.trod enc P w base spare held f q.type ((cs.drop q.offset).take (P.cellsOf q.type)) = xs[i]?) →
   (dCs (xs.map (·.1))).length = cs.length - o ∧ VRs w Gw (dCs (xs.map (·.1))) (fun j => cs[o + j]?) ∧ Ai4 (okT ti n) (fs.map fun q => (q.offset, q.type)) (dCs (xs.map (·.1)))
 | [], [], o, hc, _, _, _ => by
  have : o = cs.length := by simpa [Mt] using hc
  refine ⟨by simp [dCs, this], by simp [dCs, VRs], rfl⟩
 | [], x :: xs, o, _, _, hl, _ => by simp at hl
 | q :: fs, [], o, _, _, hl, _ => by simp at hl
 | q :: fs, x :: xs, o, hc, hty, hl, hx => by
  simp only [zat, Mt, zag, beq_iff_eq] at hc
  obtain ⟨ho, hc⟩ := hc
  split at hc
  ·rename_i j hj
   have hcell := (hT _ _ hj).cells
   have h0 := hx 0 q rfl
   simp only [zbi] at h0
   have hle := Y4 ti _ _ _ hc
   rw [hcell, ho] at h0
   obtain ⟨g1, g2, g3⟩ := ih q.type f _ x.1 x.2 h0 (hty q za1)
   obtain ⟨k1, k2, k3⟩ := R9 hT ih fs xs (o + j.size) hc (fun q hq => hty q (zav _ hq)) (by simpa using hl) (fun i q hq => by simpa using hx (i + 1) q (by simpa using hq))
   have hlen : ((cs.drop o).take j.size).length = j.size := by simp; omega
   rw [hlen] at g1
   refine ⟨?_, ?_, ?_⟩
   ·simp only [zat, dCs, zae, g1, k1]
    omega
   ·simp only [zat, dCs]
    refine Oc ?_ ?_
    ·rw [Df] at g2 ⊢
     intro p y hp
     have hlt : p < j.size := by rw [← g1]; exact (zac.1 hp).1
     obtain ⟨u, e1, e2⟩ := g2 p y hp
     rw [zbt hlt, zba] at e1
     exact ⟨u, e1, e2⟩
    ·rw [g1]
     simpa only [zaH] using k2
   ·simp only [zat, dCs, Ai4]
    exact ⟨_, _, rfl, g3, k3⟩
  ·cases hc
theorem Ye {ti : Nat → Option TI} (hT : J8 P ti) : ∀ (n t fuel : Nat) (cs : List Value) (d : DataW H) (ps : List MemPlace), DataW.trod enc P w base spare held fuel t cs = some (d, ps) → tyB ti n t = true →
  (dC d).length = cs.length ∧ VRs w Gw (dC d) (fun j => cs[j]?) ∧ okT ti n t (dC d)
 | 0, t, fuel, cs, d, ps, h, hb => by cases hb
 | n + 1, t, fuel, cs, d, ps, h, hb => by
  have ih := fun t fuel cs d ps => Ye hT n t fuel cs d ps
  simp only [tyB] at hb
  split at hb
  case h_2 => cases hb
  rename_i i hi
  have hto := hT t i hi
  obtain ⟨ds, hu, hd⟩ := hto.desc
  have one : ∀ (v : Value), VRs w Gw [.sc v] (fun j => [v][j]?) := fun v => by
   rw [VRs, VRs]
   exact ⟨⟨v, rfl, Gk _ _ _⟩, trivial⟩
  cases ds <;> simp [Gg] at hd
  case bool =>
   obtain ⟨b, rfl, hx⟩ := DataW.trod_bool hu h
   cases hx
   refine ⟨rfl, one _, i, hi, ?_⟩
   simp only [hd]
   exact ⟨b, rfl⟩
  case int k =>
   obtain ⟨m, rfl, hx, hw⟩ := DataW.trod_int hu h
   cases hx
   refine ⟨rfl, one _, i, hi, ?_⟩
   simp only [hd]
   exact ⟨m, rfl, hw⟩
  case string =>
   obtain ⟨s, rfl, hx, hw⟩ := DataW.trod_string hu h
   cases hx
   refine ⟨rfl, one _, i, hi, ?_⟩
   simp only [hd]
   exact ⟨s, rfl, hw⟩
  case struct fs =>
   have hagg : i.isAgg = true := hd.1.1.1.1.1
   obtain ⟨xs, f, rfl, hx, hl, hxl, hf⟩ := DataW.trod_struct hu h
   cases hx
   simp only [hd, hagg, za7, zb4, za4, za2, Option.isSome_none, zag, za9] at hb
   have hfl : i.fields = fs.toList.map fun f => (f.offset, f.type) := hd.1.1.2
   rw [hto.cells] at hl
   obtain ⟨k1, k2, k3⟩ := R9 (f := f) (cs := cs) hT ih fs.toList xs 0 (by rw [hl]; exact hb.1) (fun q hq => hb.2 (q.offset, q.type) (zbS.2 ⟨q, hq, rfl⟩)) (by simpa using hxl) (fun j q hq => hf j q (by simpa using hq))
   simp only [dC]
   refine ⟨by simpa using k1, by simpa using k2, i, hi, ?_⟩
   simp only [hd, hagg]
   exact k3
  case slice e =>
   have hsl : i.sl = true := hd.1.1.1.2
   have he : i.elem = e := hd.1.1.2
   simp only [hd, hsl, za7, zb4, za4, za2, Option.isSome_none] at hb
   rcases DataW.trod_slice hu h with ⟨rfl, hx⟩ | ⟨a, len, cap, elems, rest, m, rfl, rfl, hx, hbase, hle, hmax, hlen, hel, _, _⟩
   ·cases hx
    refine ⟨rfl, ?_, i, hi, ?_⟩
    ·simp only [dC]
     rw [VRs, VRs]
     refine ⟨⟨_, rfl, ?_⟩, trivial⟩
     rw [VR]
     exact ⟨none, 0, rfl, zao _, .inl rfl⟩
    ·simp only [hd, hsl]
     exact ⟨[], rfl, zay _, fun r hr => by cases hr⟩
   ·cases hx
    have hbe : tyB ti n e = true := by rw [← he]; simpa [he] using hb
    have hje : ∃ j, ti e = some j := by
     cases n with
     | zero => cases hbe
     | succ n =>
      simp only [tyB] at hbe
      split at hbe
      ·rename_i j hj; exact ⟨j, hj⟩
      ·cases hbe
    obtain ⟨j, hj⟩ := hje
    have hcell := (hT _ _ hj).cells
    have rows : ∀ (q : Nat) r, ((elems.map fun x => dC x.1))[q]? = some r → r.length = j.size ∧ VRs w Gw r (fun p => w.cell? (a.add (q * j.size + p))) ∧ okT ti n e r ∧ ∃ v, w.cell? (a.add (q * j.size)) = some v := by
     intro q r hr
     rw [zaY] at hr
     obtain ⟨x, hx, rfl⟩ := zaM.1 hr
     have hlt : q < len := by rw [← hlen]; exact (zac.1 hx).1
     have h1 := hel q hlt
     rw [hx, hcell] at h1
     obtain ⟨cs', hcs, htr⟩ := zab.1 h1
     obtain ⟨c1, c2⟩ := Aej hcs
     obtain ⟨g1, g2, g3⟩ := ih e m cs' x.1 x.2 htr hbe
     have hadd : ∀ p, (a.add (q * j.size)).add p = a.add (q * j.size + p) := by
      intro p
      unfold Addr.add
      by_cases hp : p = 0
      ·subst hp; simp
      ·by_cases hq : q * j.size = 0
       ·simp [hq]
       ·have : q * j.size + p ≠ 0 := by omega
        simp [hp, hq, this, zaH]
     refine ⟨by rw [g1, c1], ?_, g3, ?_⟩
     ·rw [Df] at g2 ⊢
      intro p y hp
      have hlt2 : p < j.size := by rw [← c1, ← g1]; exact (zac.1 hp).1
      obtain ⟨u, e1, e2⟩ := g2 p y hp
      exact ⟨u, by rw [← hadd, c2 p hlt2]; exact e1, e2⟩
     ·have := c2 0 (hT _ _ hj).spos
      rw [zaS (by rw [c1]; exact (hT _ _ hj).spos)] at this
      exact ⟨_, by simpa [Addr.add] using this⟩
    refine ⟨rfl, ?_, i, hi, ?_⟩
    ·simp only [dC]
     rw [VRs, VRs]
     refine ⟨⟨_, rfl, ?_⟩, trivial⟩
     rw [VR]
     refine ⟨some a, cap, by simp [hlen], by simpa [hlen] using hle, ?_⟩
     rw [V2]
     cases hels : elems with
     | nil => left; rfl
     | cons x0 els =>
      right
      obtain ⟨r1, r2, r3, v, hv⟩ := rows 0 (dC x0.1) (by rw [hels]; rfl)
      obtain ⟨b, o, spot⟩ := a
      have hspot : spot = none := by simpa [Addr.add] using World.cell?_spot hv
      subst hspot
      refine ⟨b, o, rfl, ?_, ?_⟩
      ·rcases Nat.lt_or_ge b w.heap.size with h | h
       ·exact h
       ·simp [World.cell?, Addr.add, zbz h] at hv
      ·have key := AaI (w0 := w) (φ := Gw) (sz := j.size) (elems.map fun x => dC x.1) 0 (fun p => w.cell? ⟨b, o + p, none⟩) (fun q r hr => by
        obtain ⟨s1, s2, _, _⟩ := rows q r hr
        refine ⟨s1, ?_⟩
        simpa only [Jp, za0] using s2)
       rw [hels] at key
       simpa [zbT, Function.comp_def] using key
    ·simp only [hd, hsl]
     refine ⟨elems.map fun x => dC x.1, ?_, by simp [hlen]; omega, fun r hr => ?_⟩
     ·simp [dC, V2, zbT, Function.comp_def]
     ·obtain ⟨q, hq⟩ := List.mem_iff_getElem?.1 hr
      exact (rows q r hq).2.2.1
  case pointer => simp [hd] at hb
  case func => simp [hd] at hb
def Yy (ti : Nat → Option TI) (t : Nat) (cs : List AV) : AV :=
 match ti t with
 | some i => if i.isAgg then .agg cs else cs.headD .any
 | none => .any
def okA (ti : Nat → Option TI) (n t : Nat) (x : AV) : Prop := ∃ cs, okT ti n t cs ∧ x = Yy ti t cs
def AnG (ti : Nat → Option TI) (n : Nat) : List Nat → List AV → Prop
 | [], xs => xs = []
 | t :: ts, xs => ∃ x ys, xs = x :: ys ∧ okA ti n t x ∧ AnG ti n ts ys
theorem Aee {ti : Nat → Option TI} (hT : J8 P ti) {n t : Nat} {v : Value} {d : DataW H} {ps : List MemPlace} {r : Reach} {b0 : Nat} (hv : Value.okWide P w r b0 t v) (h : DataW.Trod enc P w base spare held t v d ps) (hb : tyB ti n t = true) :
  VR w Gw (Yy ti t (dC d)) v ∧ okA ti n t (Yy ti t (dC d)) := by
 obtain ⟨fuel, hf⟩ := h
 obtain ⟨h1, h2, h3⟩ := Ye hT n t fuel _ d ps hf hb
 refine ⟨?_, _, h3, rfl⟩
 cases n with
 | zero => cases hb
 | succ n =>
  obtain ⟨i, hi, hok⟩ := h3
  obtain ⟨ds, hu, hd⟩ := (hT t i hi).desc
  have leafy : (∀ cs, v ≠ .agg cs) → v.cells = #[v] := by
   intro hn
   cases v <;> first | rfl | exact absurd rfl (hn _)
  have fin : i.isAgg = false → (∀ cs, v ≠ .agg cs) → VR w Gw (Yy ti t (dC d)) v := by
   intro ha hn
   rw [leafy hn] at h1 h2
   simp only [Yy, hi, ha, zaa, if_false]
   match hdc : dC d, h1 with
   | [x], _ =>
    rw [hdc, VRs] at h2
    obtain ⟨⟨u, e1, e2⟩, _⟩ := h2
    simp at e1
    subst e1
    exact e2
  unfold Value.okWide at hv
  rw [hu] at hv
  cases ds <;> simp [Gg] at hd
  case struct fs =>
   obtain ⟨cs, rfl, _, _⟩ := hv
   simp only [Yy, hi, hd, if_true]
   rw [VR]
   exact ⟨cs.toList, by simp, by simpa [Value.cells] using h1.symm, by simpa [Value.cells] using h2⟩
  all_goals
   refine fin (by simp [hd]) fun cs hcs => ?_
   subst hcs
   simp [Cell.okWide, Cell.ok, hu] at hv
theorem Vp {ti : Nat → Option TI} (hT : J8 P ti) {n : Nat} {r : Reach} {b0 : Nat} : ∀ (ts : List TypeId) (vs : List Value) (ds : List (DataW H)) (ps : List MemPlace), DataW.TrodAll enc P w base spare held ts vs ds ps →
  (∀ (j : Nat) t v, ts[j]? = some t → vs[j]? = some v → Value.okWide P w r b0 t v) → ts.all (tyB ti n) = true → ∃ xs, AnG ti n ts xs ∧ vs.length = xs.length ∧ VRs w Gw xs (fun j => vs[j]?)
 | [], [], [], _, _, _, _ => ⟨[], rfl, rfl, by rw [VRs]; trivial⟩
 | [], _ :: _, _, _, h, _, _ => by cases h
 | [], [], _ :: _, _, h, _, _ => by cases h
 | _ :: _, [], _, _, h, _, _ => by cases h
 | _ :: _, _ :: _, [], _, h, _, _ => by cases h
 | t :: ts, v :: vs, d :: ds, ps, h, hv, hb => by
  obtain ⟨p, q, h1, h2, _⟩ := h
  simp only [zaz, zag] at hb
  obtain ⟨xs, g1, g2, g3⟩ := Vp hT ts vs ds q h2 (fun j t v ht hv' => hv (j + 1) t v (by simpa using ht) (by simpa using hv')) hb.2
  obtain ⟨a1, a2⟩ := Aee hT (hv 0 t v rfl rfl) h1 hb.1
  refine ⟨_ :: xs, ⟨_, _, rfl, a2, g1⟩, by simp [g2], ?_⟩
  rw [VRs]
  exact ⟨⟨v, rfl, a1⟩, by simpa using g3⟩
theorem Yd {P : Program} {W : World} : ∀ {ts : List TypeId} {vs : List Value} {ds : List (DataW H)} {ps : List MemPlace}, DataW.TrodAll enc P W 0 (fun _ => true) true ts vs ds ps → ∀ x ∈ ps, x.block < W.heap.size
 | [], [], [], ps, h => by
  have : ps = [] := h
  subst this
  intro x hx
  cases hx
 | [], _ :: _, _, _, h => by cases h
 | [], [], _ :: _, _, h => by cases h
 | _ :: _, [], _, _, h => by cases h
 | _ :: _, _ :: _, [], _, h => by cases h
 | t :: ts, v :: vs, d :: ds, ps, h => by
  obtain ⟨p, q, h1, h2, rfl⟩ := h
  intro x hx
  rcases zaQ.1 hx with hx | hx
  ·obtain ⟨m, hm⟩ := h1
   exact DataW.trod_lt m _ _ _ hm x hx
  ·exact Yd h2 x hx
theorem Rc {P : Program} (hl : laidOutB P = true) {W W' : World} (hb : Below W.heap.size W W') : ∀ {ts : List TypeId} {vs : List Value} {ds : List (DataW H)} {ps : List MemPlace}, (ts.all fun t => P.readableRec t && decide (t < P.types.size)) = true →
  DataW.TrodAll enc P W 0 (fun _ => true) true ts vs ds ps → DataW.TrodAll enc P W' 0 (fun b => decide (b < W.heap.size)) true ts vs ds ps
 | [], [], [], ps, _, h => h
 | [], _ :: _, _, _, _, h => by cases h
 | [], [], _ :: _, _, _, h => by cases h
 | _ :: _, [], _, _, _, h => by cases h
 | _ :: _, _ :: _, [], _, _, h => by cases h
 | t :: ts, v :: vs, d :: ds, ps, hr, h => by
  simp only [zaz, zag, decide_eq_true_eq] at hr
  have hlt := Yd h
  obtain ⟨p, q, h1, h2, rfl⟩ := h
  exact ⟨p, q, Below.trod hl hr.1.1 hr.1.2 h1 hb (fun x hx => hlt x (za8 _ hx)), Rc hl hb hr.2 h2, rfl⟩
end
end
section
open Go
variable {ti : Nat → Option TI} {tp : Nat → Option (List Nat)}
def okL (f : Nat → AV → Prop) : List Nat → List AV → Prop
 | _, [] => True
 | ts, x :: xs => f (ts.headD 0) x ∧ okL f ts.tail xs
def Ab5 (ti : Nat → Option TI) (tp : Nat → Option (List Nat)) : Nat → Nat → AV → Prop
 | 0, _, _ => False
 | d + 1, ty, x =>
  match x with
  | .sc _ => True
  | .ro n cells => cells.length = n * (((ti ty).bind fun i => ti i.elem).getD default).size ∧ okL (Ab5 ti tp d) (zak n (((ti ty).bind fun i => ti i.elem).getD default).cty).flatten cells
  | .agg cs => okL (Ab5 ti tp d) ((ti ty).getD default).cty cs
  | .tup cs => okL (Ab5 ti tp d) ((tp ty).getD []) cs
  | _ => False
def Lies (H : Ab) (N : Nat) (B : List Iu) : Prop := ∀ (j : Nat) b, B[j]? = some b → H[N + j]? = some b
theorem Lies.left {H : Ab} {N : Nat} {A B : List Iu} (h : Lies H N (A ++ B)) : Lies H N A := fun j b hj => h j b (by rw [zal (zac.1 hj).1]; exact hj)
theorem Lies.right {H : Ab} {N : Nat} {A B : List Iu} (h : Lies H N (A ++ B)) : Lies H (N + A.length) B := fun j b hj => by
 have := h (A.length + j) b (by rw [zaj (by omega), zbv]; exact hj)
 rwa [← zaH] at this
theorem Lies.tail {H : Ab} {N : Nat} {x : Iu} {B : List Iu} (h : Lies H N (x :: B)) : Lies H (N + 1) B := fun j b hj => by
 have := h (j + 1) b (by simpa using hj)
 rwa [show N + (j + 1) = N + 1 + j by omega] at this
theorem Hv (m : Nat) (ts : List Nat) (l : List AV) : (Ap ti tp m ts l).1.length = l.length := by
 induction l generalizing m ts with
 | nil => rfl
 | cons x l ih => simp only [Ap, zan, ih]
theorem Rv {H : Ab} {d : Nat} (hd : ∀ (ty : Nat) (t : AV) (N : Nat), Ab5 ti tp d ty t → Lies H N (Bk ti tp N ty t).2 → C5 H d (Bk ti tp N ty t).1 = some t) :
  ∀ (cs : List AV) (ts : List Nat) (N : Nat), okL (Ab5 ti tp d) ts cs → Lies H N (Ap ti tp N ts cs).2 → (Ap ti tp N ts cs).1.mapM (C5 H d) = some cs
 | [], ts, N, _, _ => rfl
 | x :: cs, ts, N, h, hl => by
  simp only [Ap] at hl ⊢
  have h1 := hd _ x N h.1 hl.left
  have h2 := Rv hd cs ts.tail _ h.2 hl.right
  simp only [zaI, h1, h2, zbh, zaP, zad]
theorem T5 {H : Ab} : ∀ (d ty : Nat) (t : AV) (N : Nat), Ab5 ti tp d ty t → Lies H N (Bk ti tp N ty t).2 → C5 H d (Bk ti tp N ty t).1 = some t
 | 0, _, _, _, h, _ => by cases h
 | d + 1, ty, t, N, h, hl => by
  have ih := Rv (H := H) (d := d) (ti := ti) (tp := tp) (fun ty t N => T5 d ty t N)
  cases t with
  | sc v => rfl
  | ro n cells =>
   obtain ⟨h1, h2⟩ := (show cells.length = n * (((ti ty).bind fun i => ti i.elem).getD default).size ∧ okL (Ab5 ti tp d) (zak n (((ti ty).bind fun i => ti i.elem).getD default).cty).flatten cells from h)
   simp only [Bk] at hl ⊢
   have hb := hl 0 _ rfl
   have hv := ih cells _ (N + 1) h2 hl.tail
   have hlen := Hv (ti := ti) (tp := tp) (N + 1) (zak n (((ti ty).bind fun i => ti i.elem).getD default).cty).flatten cells
   show (As H N 0 (n * (((ti ty).bind fun i => ti i.elem).getD default).size)).bind (fun cs => (cs.mapM (C5 H d)).bind fun vs => some (AV.ro n vs)) = _
   rw [zaR] at hb
   simp only [As, hb, if_true, zaN, za0]
   rw [if_pos (by rw [hlen, h1]; exact zao _), ← h1, ← hlen, zaJ]
   simp only [zad]
   rw [hv]
   rfl
  | agg cs =>
   simp only [Bk] at hl ⊢
   have hv := ih cs _ N h hl
   show ((Ap ti tp N ((ti ty).getD default).cty cs).1.mapM (C5 H d)).bind (fun vs => some (AV.agg vs)) = _
   rw [hv]
   rfl
  | tup cs =>
   simp only [Bk] at hl ⊢
   have hv := ih cs _ N h hl
   show ((Ap ti tp N ((tp ty).getD []) cs).1.mapM (C5 H d)).bind (fun vs => some (AV.tup vs)) = _
   rw [hv]
   rfl
  | _ => cases h
end
end Go.Proofs.YtlcpigdmekgajaaGreatDoor.Abs
