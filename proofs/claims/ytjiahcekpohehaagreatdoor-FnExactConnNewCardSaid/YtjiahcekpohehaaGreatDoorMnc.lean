/- What the proof needs, part 3: a sound evaluator over trees, the program's functions on it, and what they come to. -/
import Derived.Test.YtjiahcekpohehaaGreatDoorMnb
import Derived.Test.YtjiahcekpohehaaGreatDoorRows
import Derived.Test.YtjiahcekpohehaaGreatDoorTie
import Derived.Test.YtjiahcekpohehaaGreatDoorCards
import Derived.Lib.LaidIn
import Derived.Lib.LaidU8T
import Derived.PinnedBridge
import Derived.SevenTiedAt
import Derived.Deep.DeepHandedRow
import Derived.Deep.DeepWitnessRowRef
import Derived.WalkKit
import Derived.ProofKit
import Derived.OpenShut
import Derived.ShutString
import Derived.ChangeOld
import Derived.Below
import Derived.SizedLaws
set_option linter.unusedVariables false
set_option linter.unusedSimpArgs false
namespace Go.Proofs.YtjiahcekpohehaaGreatDoor.Abs
section
open Go
inductive MF where
 | str
 | int
 | bool
 | byt
 | skip
 | sub (fs : List MF)
def Cn (n : Nat) (fs : List MF) : List MF := (List.replicate n fs).flatten
theorem Cu (n : Nat) (fs : List MF) : Cn (n + 1) fs = fs ++ Cn n fs := by rw [Cn, List.replicate_succ, List.flatten_cons, Cn]
theorem N9 (n : Nat) (fs : List MF) : (Cn n fs).length = n * fs.length := by simp [Cn]
def Oz (k : Nat) (out : ByteArray) : ByteArray := if h : k = 0 then out else Oz (k / 10) (⟨#[UInt8.ofNat (48 + k % 10)]⟩ ++ out)
termination_by k
decreasing_by omega
def S1 (k : Int) : ByteArray := ⟨#[109]⟩ ++ (if k ≤ 0 then ⟨#[48]⟩ else Oz k.toNat ⟨#[]⟩)
mutual
def Ce (f : MF) (k : Int) : AV → AV × Int
 | .sc v =>
  match f with
  | .str => (.sc (.string (S1 k)), k + 1)
  | .int => (.sc (.int .i64 k), k + 1)
  | .bool => (.sc (.bool (k.tmod 3 == 0)), k + 1)
  | .byt => (.sc (.int .u8 (IntKind.u8.wrap k)), k + 1)
  | _ => (.sc v, k)
 | .ro n cells =>
  match f with
  | .sub fs => (.ro n (Bg (Cn n fs) k cells).1, (Bg (Cn n fs) k cells).2)
  | _ => (.ro n cells, k)
 | x => (x, k)
def Bg (fs : List MF) (k : Int) : List AV → List AV × Int
 | [] => ([], k)
 | c :: cs => ((Ce (fs.headD .skip) k c).1 :: (Bg fs.tail (Ce (fs.headD .skip) k c).2 cs).1, (Bg fs.tail (Ce (fs.headD .skip) k c).2 cs).2)
end
mutual
def Bc (f : MF) : AV → Nat
 | .sc v =>
  match f with
  | .skip => 0
  | .sub _ => 0
  | _ => 1
 | .ro n cells =>
  match f with
  | .sub fs => A5 (Cn n fs) cells
  | _ => 0
 | _ => 0
def A5 (fs : List MF) : List AV → Nat
 | [] => 0
 | c :: cs => Bc (fs.headD .skip) c + A5 fs.tail cs
end
mutual
def Yl (f : MF) : AV → Prop
 | .sc v =>
  match f, v with
  | .str, .string _ => True
  | .int, .int .i64 _ => True
  | .bool, .bool _ => True
  | .byt, .int .u8 _ => True
  | .skip, v => H5 v = true
  | _, _ => False
 | .ro n cells =>
  match f with
  | .sub fs => n ≤ 1048576 ∧ cells.length = n * fs.length ∧ Eu (Cn n fs) cells
  | _ => False
 | _ => False
def Eu (fs : List MF) : List AV → Prop
 | [] => fs = []
 | c :: cs => fs ≠ [] ∧ Yl (fs.headD .skip) c ∧ Eu fs.tail cs
end
mutual
def Gp : AV → Nat
 | .ro _ cells => 1 + A8 cells
 | .agg cs => A8 cs
 | .tup cs => A8 cs
 | _ => 0
def A8 : List AV → Nat
 | [] => 0
 | c :: cs => Gp c + A8 cs
end
section lists
theorem Ko (f : MF) (fs : List MF) (k : Int) (c : AV) (cs : List AV) : Bg (f :: fs) k (c :: cs) = ((Ce f k c).1 :: (Bg fs (Ce f k c).2 cs).1, (Bg fs (Ce f k c).2 cs).2) := rfl
theorem D5 : ∀ (A B : List MF) (k : Int) (X Y : List AV), A.length = X.length → Bg (A ++ B) k (X ++ Y) = ((Bg A k X).1 ++ (Bg B (Bg A k X).2 Y).1, (Bg B (Bg A k X).2 Y).2)
 | [], B, k, [], Y, _ => by simp [Bg]
 | f :: A, B, k, x :: X, Y, h => by
  have ih := D5 A B (Ce f k x).2 X Y (by simpa using h)
  rw [List.cons_append, List.cons_append, Ko, Ko, ih]
  rfl
theorem Cs : ∀ (A B : List MF) (X Y : List AV), A.length = X.length → A5 (A ++ B) (X ++ Y) = A5 A X + A5 B Y
 | [], B, [], Y, _ => by simp [A5]
 | f :: A, B, x :: X, Y, h => by
  have ih := Cs A B X Y (by simpa using h)
  show Bc f x + A5 (A ++ B) (X ++ Y) = Bc f x + A5 A X + A5 B Y
  rw [ih, Nat.add_assoc]
theorem wfL_cons {f : MF} {fs : List MF} {c : AV} {cs : List AV} : Eu (f :: fs) (c :: cs) ↔ Yl f c ∧ Eu fs cs := by
 show (f :: fs ≠ [] ∧ Yl f c ∧ Eu fs cs) ↔ _
 simp
theorem Em : ∀ {fs : List MF} {cs : List AV}, Eu fs cs → fs.length = cs.length
 | fs, [], h => by
  have : fs = [] := h
  rw [this]
  rfl
 | [], _ :: _, h => absurd rfl h.1
 | f :: fs, c :: cs, h => by
  have := Em (wfL_cons.1 h).2
  simp [this]
theorem C8 : ∀ {A B : List MF} {X Y : List AV}, A.length = X.length → (Eu (A ++ B) (X ++ Y) ↔ Eu A X ∧ Eu B Y)
 | [], B, [], Y, _ => by
  show _ ↔ (([] : List MF) = [] ∧ _)
  simp
 | f :: A, B, x :: X, Y, h => by
  have ih := C8 (A := A) (B := B) (X := X) (Y := Y) (by simpa using h)
  rw [List.cons_append, List.cons_append, wfL_cons, wfL_cons, ih, and_assoc]
mutual
theorem H8 : ∀ (x : AV) (f : MF) (k : Int), (Ce f k x).2 = k + Bc f x
 | .sc v, f, k => by cases f <;> simp [Ce, Bc]
 | .ro n cells, f, k => by
  cases f <;> first | (simp [Ce, Bc]; done) | exact Ej cells _ k
 | .agg cs, f, k => by simp [Ce, Bc]
 | .tup cs, f, k => by simp [Ce, Bc]
 | .any, f, k => by simp [Ce, Bc]
 | .nl, f, k => by simp [Ce, Bc]
 | .sl .., f, k => by simp [Ce, Bc]
 | .ptr .., f, k => by simp [Ce, Bc]
 | .rp .., f, k => by simp [Ce, Bc]
 | .fn .., f, k => by simp [Ce, Bc]
theorem Ej : ∀ (cs : List AV) (fs : List MF) (k : Int), (Bg fs k cs).2 = k + A5 fs cs
 | [], fs, k => by simp [Bg, A5]
 | c :: cs, fs, k => by
  show (Bg fs.tail (Ce (fs.headD .skip) k c).2 cs).2 = k + ((Bc (fs.headD .skip) c + A5 fs.tail cs : Nat) : Int)
  rw [Ej cs, H8 c]
  omega
end
theorem Gn : ∀ (cs : List AV) (fs : List MF) (k : Int), (Bg fs k cs).1.length = cs.length
 | [], fs, k => by simp [Bg]
 | c :: cs, fs, k => by
  show (Bg fs.tail _ cs).1.length + 1 = cs.length + 1
  rw [Gn cs]
mutual
theorem Mg : ∀ (x : AV) (f : MF) (k : Int), Gp (Ce f k x).1 = Gp x
 | .sc v, f, k => by cases f <;> rfl
 | .ro n cells, f, k => by
  cases f <;> first | rfl | (show 1 + A8 _ = 1 + A8 _; rw [F9 cells])
 | .agg cs, f, k => by simp [Ce]
 | .tup cs, f, k => by simp [Ce]
 | .any, f, k => by simp [Ce]
 | .nl, f, k => by simp [Ce]
 | .sl .., f, k => by simp [Ce]
 | .ptr .., f, k => by simp [Ce]
 | .rp .., f, k => by simp [Ce]
 | .fn .., f, k => by simp [Ce]
theorem F9 : ∀ (cs : List AV) (fs : List MF) (k : Int), A8 (Bg fs k cs).1 = A8 cs
 | [], fs, k => by simp [Bg]
 | c :: cs, fs, k => by
  show Gp (Ce (fs.headD .skip) k c).1 + A8 (Bg fs.tail _ cs).1 = Gp c + A8 cs
  rw [Mg c, F9 cs]
end
mutual
theorem Fp {ti : Nat → Option TI} {tp : Nat → Option (List Nat)} : ∀ (x : AV) (N ty : Nat), (Ag ti tp N ty x).2.length = Gp x
 | .sc v, N, ty => rfl
 | .ro n cells, N, ty => by
  simp only [Ag, List.length_cons, Gp, Aw cells, Nat.add_comm]
 | .agg cs, N, ty => Aw cs _ _
 | .tup cs, N, ty => Aw cs _ _
 | .any, N, ty => rfl
 | .nl, N, ty => rfl
 | .sl .., N, ty => rfl
 | .ptr .., N, ty => rfl
 | .rp .., N, ty => rfl
 | .fn .., N, ty => rfl
theorem Aw {ti : Nat → Option TI} {tp : Nat → Option (List Nat)} : ∀ (cs : List AV) (N : Nat) (ts : List Nat), (Ab ti tp N ts cs).2.length = A8 cs
 | [], N, ts => rfl
 | c :: cs, N, ts => by
  simp only [Ab, List.length_append, A8, Fp c, Aw cs]
end
theorem Bz : ∀ (X Y : List AV), A8 (X ++ Y) = A8 X + A8 Y
 | [], Y => by simp [A8]
 | c :: X, Y => by
  show Gp c + A8 (X ++ Y) = Gp c + A8 X + A8 Y
  rw [Bz X Y, Nat.add_assoc]
theorem H0 {ti : Nat → Option TI} {tp : Nat → Option (List Nat)} (TP TS : List Nat) (t : Nat) (P S : List AV) (c : AV) (N : Nat) (h : TP.length = P.length) :
  Ab ti tp N (TP ++ t :: TS) (P ++ c :: S) = ((Ab ti tp N TP P).1 ++ (Ag ti tp (N + A8 P) t c).1 :: (Ab ti tp (N + A8 P + Gp c) TS S).1, (Ab ti tp N TP P).2 ++ ((Ag ti tp (N + A8 P) t c).2 ++ (Ab ti tp (N + A8 P + Gp c) TS S).2)) := by
 rw [Cz TP P (t :: TS) (c :: S) N h, Aw]
 have e : Ab ti tp (N + A8 P) (t :: TS) (c :: S) = ((Ag ti tp (N + A8 P) t c).1 :: (Ab ti tp (N + A8 P + Gp c) TS S).1, (Ag ti tp (N + A8 P) t c).2 ++ (Ab ti tp (N + A8 P + Gp c) TS S).2) := by
  rw [Ab, Fp]
  rfl
 rw [e]
end lists
section steps
variable {β : Type} {n : Nat} {r : Option β}
noncomputable def SB (N : Nat) (T : List Nat) (cells : List AV) : List C3 := ⟨(Ab Ad E0.tp (N + 1) T cells).1, true, true⟩ :: (Ab Ad E0.tp (N + 1) T cells).2
theorem Gl {ty len : Nat} {cells : List AV} {i j : TI} (h1 : Ad ty = some i) (h2 : Ad i.elem = some j) (N : Nat) : Ag Ad E0.tp N ty (.ro len cells) = (.sl N 0 len j.size, SB N (List.replicate len j.cty).flatten cells) := by
 simp only [Ag, h1, Option.bind_some, h2, Option.getD_some]
 rfl
theorem Ih {A C : Aa} {TP TS : List Nat} {t p : Nat} {P S : List AV} {v0 v : Value} (hT : TP.length = P.length) (hv : H5 v = true) (hp : p = P.length) (K : Aa → Option β) :
  Cb 1 (.ptr A.length p) (.sc v) (A ++ (SB A.length (TP ++ t :: TS) (P ++ .sc v0 :: S) ++ C)) K = K (A ++ (SB A.length (TP ++ t :: TS) (P ++ .sc v :: S) ++ C)) := by
 have hc : Bv (.sc v) = some [.sc v] := by simp only [Bv, Am, hv, if_true]
 have hl : (Ab Ad E0.tp (A.length + 1) TP P).1.length = P.length := Ct _ _ _
 simp only [SB, H0 TP TS t P S _ _ hT, B0, Gp, List.cons_append]
 rw [Vs 1 A.length p (.sc v) _ _ _ _ (Kg A _ _) hc rfl (by simp [hl, hp]) rfl, Vq]
 have := P9 (Ab Ad E0.tp (A.length + 1) TP P).1 [.sc v0] (Ab Ad E0.tp (A.length + 1 + A8 P + 0) TS S).1 [.sc v] rfl
 simp only [List.singleton_append, hl] at this
 rw [hp, this]
theorem Yh {A C : Aa} {TP TS : List Nat} {t p : Nat} {P S : List AV} {c : AV} (hT : TP.length = P.length) (hp : p = P.length) (K : AV → Option β) :
  Ao false 1 (.ptr A.length p) (A ++ (SB A.length (TP ++ t :: TS) (P ++ c :: S) ++ C)) K = K (Ag Ad E0.tp (A.length + 1 + A8 P) t c).1 := by
 have hl : (Ab Ad E0.tp (A.length + 1) TP P).1.length = P.length := Ct _ _ _
 simp only [SB, H0 TP TS t P S _ _ hT, List.cons_append]
 refine V6 ?_ K
 have : p + 1 ≤ ((Ab Ad E0.tp (A.length + 1) TP P).1 ++ (Ag Ad E0.tp (A.length + 1 + A8 P) t c).1 :: (Ab Ad E0.tp (A.length + 1 + A8 P + Gp c) TS S).1).length := by simp [hl, hp]
 simp only [Ae, Kg, if_true, this]
 rw [hp, ← hl, List.drop_append_of_le_length (Nat.le_refl _), List.drop_length]
 rfl
def Yr (n f ty : Nat) (t t' : AV) (k k' : Int) : Prop := ∀ (β : Type) (A C : Aa) (K : KO β) (r : Option β),
 (∀ X, K (.sc (.int .i64 k')) (A ++ ((Ag Ad E0.tp A.length ty t').2 ++ (C ++ X))) = r) → Be E0 n β f [(Ag Ad E0.tp A.length ty t).1, .sc (.int .i64 k)] (A ++ ((Ag Ad E0.tp A.length ty t).2 ++ C)) K = r
theorem Qh {ty : Nat} {f : FuncId} {args : List AV} {H : Aa} {K : KO β} (hh : E0.hm f = true) (hx : E0.ext f = none) : (PR n β).call ty (.fn f [] []) args H K = Be E0 n β f args H K := by
 show Gu E0 (Be E0 n) ty f ([] ++ args ++ []) H K = _
 simp only [Gu, hx, hh, List.nil_append, List.append_nil, if_true]
theorem Aah {A C : Aa} {TP TS : List Nat} {t p ty g : Nat} {P S : List AV} {c c' : AV} {k k' : Int} {K : KO β} (hT : TP.length = P.length) (hp : p = P.length) (hh : E0.hm g = true) (hx : E0.ext g = none) (hmk : Yr n g t c c' k k') (hs : ∀ M, (Ag Ad E0.tp M t c').1 = (Ag Ad E0.tp M t c).1) (hn : Gp c' = Gp c)
  (h : ∀ X, K (.sc (.int .i64 k')) (A ++ (SB A.length (TP ++ t :: TS) (P ++ c' :: S) ++ (C ++ X))) = r) :
  (Ao false 1 (.ptr A.length p) (A ++ (SB A.length (TP ++ t :: TS) (P ++ c :: S) ++ C)) fun v => (PR n β).call ty (.fn g [] []) [v, .sc (.int .i64 k)] (A ++ (SB A.length (TP ++ t :: TS) (P ++ c :: S) ++ C)) K) = r := by
 rw [Yh hT hp, Qh hh hx]
 have e : ∀ (d : AV) (D : Aa), A ++ (SB A.length (TP ++ t :: TS) (P ++ d :: S) ++ D) = (A ++ ⟨(Ab Ad E0.tp (A.length + 1) TP P).1 ++ (Ag Ad E0.tp (A.length + 1 + A8 P) t d).1 :: (Ab Ad E0.tp (A.length + 1 + A8 P + Gp d) TS S).1, true, true⟩ :: (Ab Ad E0.tp (A.length + 1) TP P).2) ++ ((Ag Ad E0.tp (A.length + 1 + A8 P) t d).2 ++ ((Ab Ad E0.tp (A.length + 1 + A8 P + Gp d) TS S).2 ++ D)) := by
  intro d D
  simp only [SB, H0 TP TS t P S _ _ hT, List.cons_append, List.append_assoc]
 have hN : ∀ b : C3, (A ++ b :: (Ab Ad E0.tp (A.length + 1) TP P).2).length = A.length + 1 + A8 P := by
  intro b
  rw [List.length_append, List.length_cons, Aw]
  omega
 rw [e c C]
 have key := hmk β (A ++ ⟨(Ab Ad E0.tp (A.length + 1) TP P).1 ++ (Ag Ad E0.tp (A.length + 1 + A8 P) t c).1 :: (Ab Ad E0.tp (A.length + 1 + A8 P + Gp c) TS S).1, true, true⟩ :: (Ab Ad E0.tp (A.length + 1) TP P).2) ((Ab Ad E0.tp (A.length + 1 + A8 P + Gp c) TS S).2 ++ C) K r
 rw [hN] at key
 refine key fun X => ?_
 have h2 := h X
 rw [e c' (C ++ X), hs, hn] at h2
 simp only [List.append_assoc, List.cons_append] at h2 ⊢
 exact h2
end steps
structure FD where
 f : MF
 path : List Nat
 g : FuncId
def Hd (n tS g : Nat) : Prop := Bl g = false ∧ ∀ k : Int, 0 ≤ k → k ≤ 4611686018427387904 → Bp E0 n tS g [.sc (.int .i64 k)] = some (.sc (.string (S1 k)))
def Fi (n g ty : Nat) (fs : List MF) : Prop := E0.hm g = true ∧ E0.ext g = none ∧ (∃ i j, Ad ty = some i ∧ Ad i.elem = some j) ∧ ∀ (len : Nat) (cells : List AV) (k : Int), Yl (.sub fs) (.ro len cells) → 0 ≤ k → k + Bc (.sub fs) (.ro len cells) ≤ 4611686018427387904 →
 Yr n g ty (.ro len cells) (Ce (.sub fs) k (.ro len cells)).1 k (Ce (.sub fs) k (.ro len cells)).2
def F2 (n g : Nat) (fs : List MF) : Prop := Bl g = false ∧ ∀ (ty len : Nat) (cells : List AV) (k : Int), Yl (.sub fs) (.ro len cells) → 0 ≤ k → k + Bc (.sub fs) (.ro len cells) ≤ 4611686018427387904 →
 Bp E0 n ty g [(Ce (.sub fs) k (.ro len cells)).1, .sc (.int .i64 k)] = some (.sc (.int .i64 (Ce (.sub fs) k (.ro len cells)).2))
def AbC (n t g : Nat) : MF → Prop
 | .sub fs => Fi n g t fs
 | _ => True
def AbB (n g : Nat) : MF → Prop
 | .sub fs => F2 n g fs
 | _ => True
def Tf (n : Nat) : Nat → List FD → List Nat → Prop
 | off, fd :: r, t :: ts => fd.path.sum = off ∧ AbC n t fd.g fd.f ∧ Tf n (off + 1) r ts
 | _, [], [] => True
 | _, _, _ => False
def Wa (n : Nat) : Nat → List FD → Prop
 | off, fd :: r => fd.path.sum = off ∧ AbB n fd.g fd.f ∧ Wa n (off + 1) r
 | _, [] => True
section fns
variable {β : Type}
def A4 (p : Pr β) : List Nat → AV → (AV → Option β) → Option β
 | [], x, K => K x
 | o :: r, x, K => p.fadr o x fun t => A4 p r t K
def D0 (p : Pr β) (tS tI gT w : Nat) (a i : AV) : List FD → AV → Aa → (KO β) → Option β
 | [], k, H, K => K k H
 | ⟨.str, path, _⟩ :: r, k, H, K => p.call tS (.fn gT [] []) [k] H fun s H => p.iadr w a i fun t => A4 p path t fun t => p.store 1 t s H fun H => p.bin .add k (.sc (.int .i64 1)) fun k => D0 p tS tI gT w a i r k H K
 | ⟨.int, path, _⟩ :: r, k, H, K => p.iadr w a i fun t => A4 p path t fun t => p.store 1 t k H fun H => p.bin .add k (.sc (.int .i64 1)) fun k => D0 p tS tI gT w a i r k H K
 | ⟨.bool, path, _⟩ :: r, k, H, K => p.bin .rem k (.sc (.int .i64 3)) fun q => p.bin .eql q (.sc (.int .i64 0)) fun b => p.iadr w a i fun t => A4 p path t fun t => p.store 1 t b H fun H => p.bin .add k (.sc (.int .i64 1)) fun k => D0 p tS tI gT w a i r k H K
 | ⟨.byt, path, _⟩ :: r, k, H, K => p.cvI .u8 k fun c => p.iadr w a i fun t => A4 p path t fun t => p.store 1 t c H fun H => p.bin .add k (.sc (.int .i64 1)) fun k => D0 p tS tI gT w a i r k H K
 | ⟨.sub _, path, g⟩ :: r, k, H, K => p.iadr w a i fun t => A4 p path t fun t => p.load false 1 t H fun v => p.call tI (.fn g [] []) [v, k] H fun k H => D0 p tS tI gT w a i r k H K
 | ⟨.skip, _, _⟩ :: r, k, H, K => D0 p tS tI gT w a i r k H K
def Dz (p : Pr β) (tS tI gT w : Nat) (a i : AV) (F : Aa → Option β) : List FD → AV → Aa → (KO β) → Option β
 | [], k, H, K => K k H
 | ⟨.str, path, _⟩ :: r, k, H, K => p.iadr w a i fun t => A4 p path t fun t => p.load false 1 t H fun v => p.call tS (.fn gT [] []) [k] H fun s H => p.bin .neq v s fun b => p.cond b (F H) (p.bin .add k (.sc (.int .i64 1)) fun k => Dz p tS tI gT w a i F r k H K)
 | ⟨.int, path, _⟩ :: r, k, H, K => p.iadr w a i fun t => A4 p path t fun t => p.load false 1 t H fun v => p.bin .neq v k fun b => p.cond b (F H) (p.bin .add k (.sc (.int .i64 1)) fun k => Dz p tS tI gT w a i F r k H K)
 | ⟨.bool, path, _⟩ :: r, k, H, K => p.iadr w a i fun t => A4 p path t fun t => p.load false 1 t H fun v => p.bin .rem k (.sc (.int .i64 3)) fun q => p.bin .eql q (.sc (.int .i64 0)) fun e => p.binB .neq v e fun b => p.cond b (F H) (p.bin .add k (.sc (.int .i64 1)) fun k => Dz p tS tI gT w a i F r k H K)
 | ⟨.byt, path, _⟩ :: r, k, H, K => p.iadr w a i fun t => A4 p path t fun t => p.load false 1 t H fun v => p.cvI .u8 k fun c => p.bin .neq v c fun b => p.cond b (F H) (p.bin .add k (.sc (.int .i64 1)) fun k => Dz p tS tI gT w a i F r k H K)
 | ⟨.sub _, path, g⟩ :: r, k, H, K => p.iadr w a i fun t => A4 p path t fun t => p.load false 1 t H fun v => p.call tI (.fn g [] []) [v, k] H fun k H => p.bin .lss k (.sc (.int .i64 0)) fun b => p.cond b (F H) (Dz p tS tI gT w a i F r k H K)
 | ⟨.skip, _, _⟩ :: r, k, H, K => Dz p tS tI gT w a i F r k H K
variable {n : Nat} {res : Option β}
theorem Dw : ∀ (path : List Nat) (id off : Nat) (K : AV → Option β), A4 (PR n β) path (.ptr id off) K = K (.ptr id (off + path.sum))
 | [], id, off, K => rfl
 | o :: r, id, off, K => by
  show A4 (PR n β) r (.ptr id (off + o)) K = _
  rw [Dw r, List.sum_cons, Nat.add_assoc]
theorem Nn : ∀ (path : List Nat) (cells : List AV) (K : AV → Option β), A4 (PR n β) path (.rp cells) K = K (.rp (cells.drop path.sum))
 | [], cells, K => by simp [A4]
 | o :: r, cells, K => by
  show A4 (PR n β) r (.rp (cells.drop o)) K = _
  rw [Nn r, List.sum_cons, List.drop_drop]
theorem M1 (k : Int) (K : AV → Option β) (h0 : 0 ≤ k) (h1 : k ≤ 4611686018427387904) : An .add (.sc (.int .i64 k)) (.sc (.int .i64 1)) K = K (.sc (.int .i64 (k + 1))) := by
 show K (.sc (.int .i64 (IntKind.i64.wrap (k + 1)))) = _
 rw [Qf _ (by omega) (by omega)]
theorem Na {tS gT : Nat} (h : Hd n tS gT) {k : Int} (h0 : 0 ≤ k) (h1 : k ≤ 4611686018427387904) (H : Aa) (K : KO β) : (PR n β).call tS (.fn gT [] []) [.sc (.int .i64 k)] H K = K (.sc (.string (S1 k))) H := by
 rw [Do (vs := [.sc (.int .i64 k)]) h.1 rfl (h.2 k h0 h1), B0, List.append_nil]
theorem Tk {tS tI gT w len i : Nat} (hT : Hd n tS gT) (hi : i < len) : ∀ (todo : List FD) (off : Nat) (Q R S : List AV) (TP tR TS : List Nat) (k : Int) (A C : Aa) (K : KO β),
  Tf n off todo tR → TP.length = Q.length → Q.length = i * w + off → Eu (todo.map FD.f) R → 0 ≤ k → k + A5 (todo.map FD.f) R ≤ 4611686018427387904 →
  (∀ X, K (.sc (.int .i64 (Bg (todo.map FD.f) k R).2)) (A ++ (SB A.length (TP ++ (tR ++ TS)) (Q ++ ((Bg (todo.map FD.f) k R).1 ++ S)) ++ (C ++ X))) = res) →
  D0 (PR n β) tS tI gT w (.sl A.length 0 len w) (.sc (.int .i64 i)) todo (.sc (.int .i64 k)) (A ++ (SB A.length (TP ++ (tR ++ TS)) (Q ++ (R ++ S)) ++ C)) K = res
 | [], off, Q, R, S, TP, tR, TS, k, A, C, K, hf, ht, hq, hw, h0, h1, h => by
  cases R with
  | nil =>
   have := h []
   simp only [List.append_nil] at this
   exact this
  | cons c R => exact absurd rfl hw.1
 | fd :: todo, off, Q, R, S, TP, tR, TS, k, A, C, K, hf, ht, hq, hw, h0, h1, h => by
  cases R with
  | nil => exact absurd (show fd.f :: todo.map FD.f = [] from hw) (by simp)
  | cons c R =>
  cases tR with
  | nil => exact hf.elim
  | cons t tR =>
  obtain ⟨hpath, hsub, hrest⟩ := hf
  obtain ⟨hwc, hwR⟩ := wfL_cons.1 hw
  have hpl : ∀ K' : AV → Option β, (Bh w (.sl A.length 0 len w) (.sc (.int .i64 i)) fun t => A4 (PR n β) fd.path t K') = K' (.ptr A.length Q.length) := fun K' => by
   rw [Xo w _ _ _ _ _ hi, Dw, hpath, hq, Nat.zero_add]
  have hcnt : A5 ((fd :: todo).map FD.f) (c :: R) = Bc fd.f c + A5 (todo.map FD.f) R := rfl
  have hmk : Bg ((fd :: todo).map FD.f) k (c :: R) = ((Ce fd.f k c).1 :: (Bg (todo.map FD.f) (Ce fd.f k c).2 R).1, (Bg (todo.map FD.f) (Ce fd.f k c).2 R).2) := rfl
  rw [hcnt] at h1
  rw [hmk] at h
  have e1 : ∀ (x : AV) (Y : List AV), Q ++ (x :: Y ++ S) = Q ++ x :: (Y ++ S) := fun x Y => rfl
  have e2 : ∀ (x : AV) (Y : List AV), Q ++ x :: (Y ++ S) = (Q ++ [x]) ++ (Y ++ S) := fun x Y => by simp
  have e3 : TP ++ (t :: tR ++ TS) = (TP ++ [t]) ++ (tR ++ TS) := by simp
  have e4 : TP ++ (t :: tR ++ TS) = TP ++ t :: (tR ++ TS) := rfl
  have go : ∀ (c' : AV) (k' : Int) (C : Aa) (K : KO β), 0 ≤ k' → k' + A5 (todo.map FD.f) R ≤ 4611686018427387904 →
    (∀ X, K (.sc (.int .i64 (Bg (todo.map FD.f) k' R).2)) (A ++ (SB A.length (TP ++ (t :: tR ++ TS)) (Q ++ (c' :: (Bg (todo.map FD.f) k' R).1 ++ S)) ++ (C ++ X))) = res) →
    D0 (PR n β) tS tI gT w (.sl A.length 0 len w) (.sc (.int .i64 i)) todo (.sc (.int .i64 k')) (A ++ (SB A.length (TP ++ (t :: tR ++ TS)) (Q ++ c' :: (R ++ S)) ++ C)) K = res := by
   intro c' k' C K h0' h1' h'
   have := Tk (tI := tI) (w := w) hT hi todo (off + 1) (Q ++ [c']) R S (TP ++ [t]) tR TS k' A C K hrest (by simp [ht]) (by simp [hq]; omega) hwR h0' h1' (fun X => by
    have := h' X
    rw [e1, e2, e3] at this
    exact this)
   rw [e3, e2]
   exact this
  obtain ⟨f, path, g⟩ := fd
  cases f with
  | skip =>
   have hc : ∃ v, c = .sc v := by
    cases c <;> first | exact ⟨_, rfl⟩ | exact hwc.elim
   obtain ⟨v, rfl⟩ := hc
   exact go (.sc v) k C K h0 (by simpa [Bc] using h1) h
  | sub fs =>
   have hc : ∃ m cells, c = .ro m cells := by
    cases c with
    | ro m cells => exact ⟨m, cells, rfl⟩
    | sc v => exact hwc.elim
    | _ => exact hwc.elim
   obtain ⟨m, cells, rfl⟩ := hc
   obtain ⟨hh, hx, ⟨j1, j2, hj1, hj2⟩, hmk'⟩ := hsub
   have hk' := H8 (.ro m cells) (.sub fs) k
   have h1 : k + (Bc (.sub fs) (.ro m cells) + A5 (todo.map FD.f) R : Nat) ≤ 4611686018427387904 := h1
   show (Bh w (.sl A.length 0 len w) (.sc (.int .i64 i)) fun t => A4 (PR n β) path t fun t => Ao false 1 t _ fun v => (PR n β).call tI (.fn g [] []) [v, .sc (.int .i64 k)] _ fun k H => D0 (PR n β) tS tI gT w _ _ todo k H K) = res
   rw [hpl]
   rw [e4, e1]
   refine Aah ht rfl hh hx (hmk' m cells k hwc h0 (by omega)) (fun M => ?_) (Mg _ _ _) fun X => ?_
   ·rw [Gl hj1 hj2]
    show (Ag Ad E0.tp M t (.ro m _)).1 = _
    rw [Gl hj1 hj2]
   ·refine go _ _ (C ++ X) K (by omega) (by omega) fun Y => ?_
    rw [List.append_assoc]
    exact h (X ++ Y)
  | str =>
   have hc : ∃ s, c = .sc (.string s) := by
    cases c with
    | sc v => cases v <;> first | exact ⟨_, rfl⟩ | exact hwc.elim
    | _ => exact hwc.elim
   obtain ⟨v, rfl⟩ := hc
   have h1 : k + (1 + A5 (todo.map FD.f) R : Nat) ≤ 4611686018427387904 := h1
   show (PR n β).call tS (.fn gT [] []) [.sc (.int .i64 k)] _ (fun s H => Bh w (.sl A.length 0 len w) (.sc (.int .i64 i)) fun t => A4 (PR n β) path t fun t => Cb 1 t s H fun H => An .add (.sc (.int .i64 k)) (.sc (.int .i64 1)) fun k => D0 (PR n β) tS tI gT w _ _ todo k H K) = res
   rw [Na hT h0 (by omega)]
   simp only [hpl]
   rw [e4, e1, Ih ht rfl rfl, M1 _ _ h0 (by omega)]
   exact go _ _ C K (by omega) (by omega) h
  | int =>
   have hc : ∃ z, c = .sc (.int .i64 z) := by
    cases c with
    | sc v => cases v with
     | int kd z => cases kd <;> first | exact ⟨_, rfl⟩ | exact hwc.elim
     | _ => exact hwc.elim
    | _ => exact hwc.elim
   obtain ⟨v, rfl⟩ := hc
   have h1 : k + (1 + A5 (todo.map FD.f) R : Nat) ≤ 4611686018427387904 := h1
   show (Bh w (.sl A.length 0 len w) (.sc (.int .i64 i)) fun t => A4 (PR n β) path t fun t => Cb 1 t (.sc (.int .i64 k)) _ fun H => An .add (.sc (.int .i64 k)) (.sc (.int .i64 1)) fun k => D0 (PR n β) tS tI gT w _ _ todo k H K) = res
   rw [hpl]
   rw [e4, e1, Ih ht rfl rfl, M1 _ _ h0 (by omega)]
   exact go _ _ C K (by omega) (by omega) h
  | bool =>
   have hc : ∃ b, c = .sc (.bool b) := by
    cases c with
    | sc v => cases v <;> first | exact ⟨_, rfl⟩ | exact hwc.elim
    | _ => exact hwc.elim
   obtain ⟨v, rfl⟩ := hc
   have h1 : k + (1 + A5 (todo.map FD.f) R : Nat) ≤ 4611686018427387904 := h1
   show (Bh w (.sl A.length 0 len w) (.sc (.int .i64 i)) fun t => A4 (PR n β) path t fun t => Cb 1 t (.sc (.bool (k.tmod 3 == 0))) _ fun H => An .add (.sc (.int .i64 k)) (.sc (.int .i64 1)) fun k => D0 (PR n β) tS tI gT w _ _ todo k H K) = res
   rw [hpl]
   rw [e4, e1, Ih ht rfl rfl, M1 _ _ h0 (by omega)]
   exact go _ _ C K (by omega) (by omega) h
  | byt =>
   have hc : ∃ z, c = .sc (.int .u8 z) := by
    cases c with
    | sc v => cases v with
     | int kd z => cases kd <;> first | exact ⟨_, rfl⟩ | exact hwc.elim
     | _ => exact hwc.elim
    | _ => exact hwc.elim
   obtain ⟨v, rfl⟩ := hc
   have h1 : k + (1 + A5 (todo.map FD.f) R : Nat) ≤ 4611686018427387904 := h1
   show (Bh w (.sl A.length 0 len w) (.sc (.int .i64 i)) fun t => A4 (PR n β) path t fun t => Cb 1 t (.sc (.int .u8 (IntKind.u8.wrap k))) _ fun H => An .add (.sc (.int .i64 k)) (.sc (.int .i64 1)) fun k => D0 (PR n β) tS tI gT w _ _ todo k H K) = res
   rw [hpl]
   rw [e4, e1, Ih ht rfl rfl, M1 _ _ h0 (by omega)]
   exact go _ _ C K (by omega) (by omega) h
end fns
end
section
open Go
variable {β : Type} {n : Nat} {res : Option β}
theorem Mx {n : Nat} : ∀ {off : Nat} {fds : List FD} {ts : List Nat}, Tf n off fds ts → fds.length = ts.length
 | _, [], [], _ => rfl
 | _, _ :: _, _ :: _, h => by simp [Mx h.2.2]
 | _, [], _ :: _, h => h.elim
 | _, _ :: _, [], h => h.elim
theorem U5 (id off m w : Nat) (k : AV → Option β) : Fc (.sl id off m w) k = k (.sc (.int .i64 m)) := rfl
theorem Va {tS tI gT w len : Nat} {cty : List Nat} {fds : List FD} (hT : Hd n tS gT) (hf : Tf n 0 fds cty) (hw : fds.length = w) (hlen : len ≤ 1048576) (L : Nat → AV → AV → KO β) (kk : KO β)
  (hL : ∀ m a k i H, L (m + 1) a k i H = Fc a fun t8 => An .lss i t8 fun t9 => A7 t9 (D0 (PR n β) tS tI gT w a i fds k H fun k' H => An .add i (.sc (.int .i64 1)) fun i' => L m a k' i' H) (kk k H)) :
  ∀ (r i m : Nat) (P S : List AV) (TP : List Nat) (k : Int) (A C : Aa), P.length = i * w → TP.length = P.length → i + r = len → r < m → Eu (Cn r (fds.map FD.f)) S → 0 ≤ k → k + A5 (Cn r (fds.map FD.f)) S ≤ 4611686018427387904 →
   (∀ X, kk (.sc (.int .i64 (Bg (Cn r (fds.map FD.f)) k S).2)) (A ++ (SB A.length (TP ++ (List.replicate r cty).flatten) (P ++ (Bg (Cn r (fds.map FD.f)) k S).1) ++ (C ++ X))) = res) →
   L m (.sl A.length 0 len w) (.sc (.int .i64 k)) (.sc (.int .i64 i)) (A ++ (SB A.length (TP ++ (List.replicate r cty).flatten) (P ++ S) ++ C)) = res
 | 0, i, m + 1, P, S, TP, k, A, C, hP, hTP, hr, hm, hwf, h0, h1, h => by
  have hS : S = [] := by
   have := Em hwf
   simp [Cn] at this
   exact List.eq_nil_of_length_eq_zero this.symm
  subst hS
  obtain rfl : i = len := by omega
  rw [hL]
  rw [U5, Ei, Bi, if_neg (by simp)]
  have := h []
  simp only [List.append_nil, Bg] at this ⊢
  exact this
 | r + 1, i, m + 1, P, S, TP, k, A, C, hP, hTP, hr, hm, hwf, h0, h1, h => by
  have hi : i < len := by omega
  have hml : (fds.map FD.f).length = w := by simp [hw]
  have hSl : S.length = (r + 1) * w := by
   have := Em hwf
   rw [N9, hml] at this
   exact this.symm
  obtain ⟨R, S', rfl, hRl⟩ : ∃ R S', S = R ++ S' ∧ R.length = w := ⟨S.take w, S.drop w, (List.take_append_drop w S).symm, by rw [List.length_take, hSl, Nat.succ_mul]; omega⟩
  rw [Cu] at hwf h1 h
  have hl : (fds.map FD.f).length = R.length := by rw [hml, hRl]
  obtain ⟨hwR, hwS⟩ := (C8 hl).1 hwf
  rw [Cs _ _ _ _ hl] at h1
  rw [D5 _ _ _ _ _ hl] at h
  have hkc := Ej R (fds.map FD.f) k
  have hRl' := Gn R (fds.map FD.f) k
  have hcl : cty.length = w := by rw [← Mx hf, hw]
  rw [List.replicate_succ, List.flatten_cons] at h ⊢
  rw [hL]
  rw [U5, Ei, Bi, if_pos (by simpa using hi)]
  refine Tk (w := w) (tI := tI) hT hi fds 0 P R S' TP cty (List.replicate r cty).flatten k A C _ hf hTP (by rw [hP, Nat.add_zero]) hwR h0 (by omega) fun X => ?_
  rw [Jq _ _ (by omega)]
  have ih := Va hT hf hw hlen L kk hL r (i + 1) m (P ++ (Bg (fds.map FD.f) k R).1) S' (TP ++ cty) (Bg (fds.map FD.f) k R).2 A (C ++ X) (by rw [List.length_append, hP, hRl', hRl, Nat.succ_mul]) (by rw [List.length_append, List.length_append, hTP, hcl, hRl', hRl]) (by omega) (by omega) hwS (by omega) (by omega) (fun Y => by
   have := h (X ++ Y)
   simp only [List.append_assoc] at this ⊢
   exact this)
  simp only [List.append_assoc] at ih ⊢
  exact ih
theorem H7 {tS tI gT w f tyS : Nat} {cty : List Nat} {fds : List FD} (hh : E0.hm f = true) (hx : E0.ext f = none) (hT : Hd n tS gT) (hf : Tf n 0 fds cty) (hw : fds.length = w) (hty : ∃ i j, Ad tyS = some i ∧ Ad i.elem = some j ∧ j.size = w ∧ j.cty = cty) (hn : 1048576 < n)
  (L : (β : Type) → (KO β) → Nat → AV → AV → KO β)
  (hL : ∀ β kk m a k i H, L β kk (m + 1) a k i H = Fc a fun t8 => An .lss i t8 fun t9 => A7 t9 (D0 (PR n β) tS tI gT w a i fds k H fun k' H => An .add i (.sc (.int .i64 1)) fun i' => L β kk m a k' i' H) (kk k H))
  (hF : ∀ β a b H kk, Be E0 (n + 1) β f [a, b] H kk = L β kk n a b (.sc (.int .i64 0)) H) : Fi (n + 1) f tyS (fds.map FD.f) := by
 obtain ⟨ti, tj, h1, h2, h3, h4⟩ := hty
 refine ⟨hh, hx, ⟨ti, tj, h1, h2⟩, fun len cells k hwf h0 hb => ?_⟩
 intro β A C K r h
 obtain ⟨hlen, hcl, hwl⟩ := (show len ≤ 1048576 ∧ cells.length = len * (fds.map FD.f).length ∧ Eu (Cn len (fds.map FD.f)) cells from hwf)
 rw [hF, Gl h1 h2, h3, h4]
 have hmk : Ce (.sub (fds.map FD.f)) k (.ro len cells) = (.ro len (Bg (Cn len (fds.map FD.f)) k cells).1, (Bg (Cn len (fds.map FD.f)) k cells).2) := rfl
 rw [hmk] at h
 simp only [Gl h1 h2, h3, h4] at h
 exact Va (n := n) (cty := cty) hT hf hw hlen (L β K) K (hL β K) len 0 n [] cells [] k A C (by simp) rfl (by omega) (by omega) hwl h0 hb h
theorem Tj {tS tI gT w len i : Nat} {F : Aa → Option β} (hT : Hd n tS gT) (hi : i < len) (cells : List AV) (hw0 : i * w < cells.length) : ∀ (todo : List FD) (off : Nat) (Q R S : List AV) (k : Int) (H : Aa) (K : KO β),
  Wa n off todo → Q.length = i * w + off → Eu (todo.map FD.f) R → 0 ≤ k → k + A5 (todo.map FD.f) R ≤ 4611686018427387904 → cells = Q ++ ((Bg (todo.map FD.f) k R).1 ++ S) →
  (∀ X, K (.sc (.int .i64 (Bg (todo.map FD.f) k R).2)) (H ++ X) = res) →
  Dz (PR n β) tS tI gT w (.ro len cells) (.sc (.int .i64 i)) F todo (.sc (.int .i64 k)) H K = res
 | [], off, Q, R, S, k, H, K, hf, hq, hw, h0, h1, hc, h => by
  cases R with
  | nil =>
   have := h []
   rw [List.append_nil] at this
   exact this
  | cons c R => exact absurd rfl hw.1
 | fd :: todo, off, Q, R, S, k, H, K, hf, hq, hw, h0, h1, hc, h => by
  cases R with
  | nil => exact absurd (show fd.f :: todo.map FD.f = [] from hw) (by simp)
  | cons c R =>
  obtain ⟨hpath, hsub, hrest⟩ := hf
  obtain ⟨hwc, hwR⟩ := wfL_cons.1 hw
  have hmk : Bg ((fd :: todo).map FD.f) k (c :: R) = ((Ce fd.f k c).1 :: (Bg (todo.map FD.f) (Ce fd.f k c).2 R).1, (Bg (todo.map FD.f) (Ce fd.f k c).2 R).2) := rfl
  rw [hmk] at h hc
  have hcells : cells = Q ++ (Ce fd.f k c).1 :: ((Bg (todo.map FD.f) (Ce fd.f k c).2 R).1 ++ S) := hc
  have hpl : ∀ K' : AV → Option β, (Bh w (.ro len cells) (.sc (.int .i64 i)) fun t => A4 (PR n β) fd.path t fun t => Ao false 1 t H K') = K' (Ce fd.f k c).1 := fun K' => by
   rw [Jp w _ _ i _ hi hw0, Nn, hpath, List.drop_drop, ← hq]
   conv => lhs; rw [hcells]
   rw [List.drop_append_of_le_length (Nat.le_refl _), List.drop_length, List.nil_append, Pu]
  have go : ∀ (H' : Aa), (∀ X, K (.sc (.int .i64 (Bg (todo.map FD.f) (Ce fd.f k c).2 R).2)) (H' ++ X) = res) → 0 ≤ (Ce fd.f k c).2 → (Ce fd.f k c).2 + A5 (todo.map FD.f) R ≤ 4611686018427387904 →
    Dz (PR n β) tS tI gT w (.ro len cells) (.sc (.int .i64 i)) F todo (.sc (.int .i64 (Ce fd.f k c).2)) H' K = res := by
   intro H' h' g0 g1
   exact Tj hT hi cells hw0 todo (off + 1) (Q ++ [(Ce fd.f k c).1]) R S (Ce fd.f k c).2 H' K hrest (by simp [hq]; omega) hwR g0 g1 (by rw [hcells]; simp) h'
  have hcnt := H8 c fd.f k
  have h1 : k + (Bc fd.f c + A5 (todo.map FD.f) R : Nat) ≤ 4611686018427387904 := h1
  obtain ⟨f, path, g⟩ := fd
  simp only at hcnt h1 hpl go h
  cases f with
  | skip =>
   have hc : ∃ v, c = .sc v := by
    cases c <;> first | exact ⟨_, rfl⟩ | exact hwc.elim
   obtain ⟨v, rfl⟩ := hc
   exact go H h h0 (by simpa [Bc, Ce] using h1)
  | sub fs =>
   have hc : ∃ m cells, c = .ro m cells := by
    cases c with
    | ro m cells => exact ⟨m, cells, rfl⟩
    | sc v => exact hwc.elim
    | _ => exact hwc.elim
   obtain ⟨m, cs, rfl⟩ := hc
   obtain ⟨hh, hhe⟩ := hsub
   show (Bh w (.ro len cells) (.sc (.int .i64 i)) fun t => A4 (PR n β) path t fun t => Ao false 1 t H fun v => (PR n β).call tI (.fn g [] []) [v, .sc (.int .i64 k)] H fun k H => An .lss k (.sc (.int .i64 0)) fun b => A7 b (F H) (Dz (PR n β) tS tI gT w _ _ F todo k H K)) = res
   rw [hpl, Do (vs := [(Ce (.sub fs) k (.ro m cs)).1, .sc (.int .i64 k)]) hh rfl (hhe tI m cs k hwc h0 (by omega)), B0, List.append_nil]
   simp only
   rw [Q6, Bi, if_neg (by simp; omega)]
   exact go H h (by omega) (by omega)
  | str =>
   have hc : ∃ s, c = .sc (.string s) := by
    cases c with
    | sc v => cases v <;> first | exact ⟨_, rfl⟩ | exact hwc.elim
    | _ => exact hwc.elim
   obtain ⟨v, rfl⟩ := hc
   have h1 : k + (1 + A5 (todo.map FD.f) R : Nat) ≤ 4611686018427387904 := h1
   have hpl' : ∀ K' : AV → Option β, (Bh w (.ro len cells) (.sc (.int .i64 i)) fun t => A4 (PR n β) path t fun t => Ao false 1 t H K') = K' (.sc (.string (S1 k))) := hpl
   show (Bh w (.ro len cells) (.sc (.int .i64 i)) fun t => A4 (PR n β) path t fun t => Ao false 1 t H fun v => (PR n β).call tS (.fn gT [] []) [.sc (.int .i64 k)] H fun s H => An .neq v s fun b => A7 b (F H) (An .add (.sc (.int .i64 k)) (.sc (.int .i64 1)) fun k => Dz (PR n β) tS tI gT w _ _ F todo k H K)) = res
   rw [hpl', Na hT h0 (by omega), Ab3]
   simp only [beq_self_eq_true, Bool.not_true]
   rw [Bi, if_neg (by simp), M1 _ _ h0 (by omega)]
   exact go H h (by show 0 ≤ k + 1; omega) (by show k + 1 + _ ≤ _; omega)
  | int =>
   have hc : ∃ z, c = .sc (.int .i64 z) := by
    cases c with
    | sc v => cases v with
     | int kd z => cases kd <;> first | exact ⟨_, rfl⟩ | exact hwc.elim
     | _ => exact hwc.elim
    | _ => exact hwc.elim
   obtain ⟨v, rfl⟩ := hc
   have h1 : k + (1 + A5 (todo.map FD.f) R : Nat) ≤ 4611686018427387904 := h1
   have hpl' : ∀ K' : AV → Option β, (Bh w (.ro len cells) (.sc (.int .i64 i)) fun t => A4 (PR n β) path t fun t => Ao false 1 t H K') = K' (.sc (.int .i64 k)) := hpl
   show (Bh w (.ro len cells) (.sc (.int .i64 i)) fun t => A4 (PR n β) path t fun t => Ao false 1 t H fun v => An .neq v (.sc (.int .i64 k)) fun b => A7 b (F H) (An .add (.sc (.int .i64 k)) (.sc (.int .i64 1)) fun k => Dz (PR n β) tS tI gT w _ _ F todo k H K)) = res
   rw [hpl', Za]
   simp only [bne_self_eq_false]
   rw [Bi, if_neg (by simp), M1 _ _ h0 (by omega)]
   exact go H h (by show 0 ≤ k + 1; omega) (by show k + 1 + _ ≤ _; omega)
  | bool =>
   have hc : ∃ b, c = .sc (.bool b) := by
    cases c with
    | sc v => cases v <;> first | exact ⟨_, rfl⟩ | exact hwc.elim
    | _ => exact hwc.elim
   obtain ⟨v, rfl⟩ := hc
   have h1 : k + (1 + A5 (todo.map FD.f) R : Nat) ≤ 4611686018427387904 := h1
   have hpl' : ∀ K' : AV → Option β, (Bh w (.ro len cells) (.sc (.int .i64 i)) fun t => A4 (PR n β) path t fun t => Ao false 1 t H K') = K' (.sc (.bool (k.tmod 3 == 0))) := hpl
   show (Bh w (.ro len cells) (.sc (.int .i64 i)) fun t => A4 (PR n β) path t fun t => Ao false 1 t H fun v => G0 .neq v (.sc (.bool (k.tmod 3 == 0))) fun b => A7 b (F H) (An .add (.sc (.int .i64 k)) (.sc (.int .i64 1)) fun k => Dz (PR n β) tS tI gT w _ _ F todo k H K)) = res
   rw [hpl', Ab2]
   simp only [beq_self_eq_true, Bool.not_true]
   rw [Bi, if_neg (by simp), M1 _ _ h0 (by omega)]
   exact go H h (by show 0 ≤ k + 1; omega) (by show k + 1 + _ ≤ _; omega)
  | byt =>
   have hc : ∃ z, c = .sc (.int .u8 z) := by
    cases c with
    | sc v => cases v with
     | int kd z => cases kd <;> first | exact ⟨_, rfl⟩ | exact hwc.elim
     | _ => exact hwc.elim
    | _ => exact hwc.elim
   obtain ⟨v, rfl⟩ := hc
   have h1 : k + (1 + A5 (todo.map FD.f) R : Nat) ≤ 4611686018427387904 := h1
   have hpl' : ∀ K' : AV → Option β, (Bh w (.ro len cells) (.sc (.int .i64 i)) fun t => A4 (PR n β) path t fun t => Ao false 1 t H K') = K' (.sc (.int .u8 (IntKind.u8.wrap k))) := hpl
   show (Bh w (.ro len cells) (.sc (.int .i64 i)) fun t => A4 (PR n β) path t fun t => Ao false 1 t H fun v => An .neq v (.sc (.int .u8 (IntKind.u8.wrap k))) fun b => A7 b (F H) (An .add (.sc (.int .i64 k)) (.sc (.int .i64 1)) fun k => Dz (PR n β) tS tI gT w _ _ F todo k H K)) = res
   rw [hpl']
   show A7 (.sc (.bool (IntKind.u8.wrap k != IntKind.u8.wrap k))) _ _ = res
   simp only [bne_self_eq_false]
   rw [Bi, if_neg (by simp), M1 _ _ h0 (by omega)]
   exact go H h (by show 0 ≤ k + 1; omega) (by show k + 1 + _ ≤ _; omega)
theorem U9 {tS tI gT w len : Nat} {fds : List FD} (hT : Hd n tS gT) (hf : Wa n 0 fds) (hw : fds.length = w) (hw0 : 0 < w) (hlen : len ≤ 1048576) (cells : List AV) (L : Nat → AV → AV → KO β) (kk : KO β)
  (hL : ∀ m a k i H, L (m + 1) a k i H = Fc a fun t8 => An .lss i t8 fun t9 => A7 t9 (Dz (PR n β) tS tI gT w a i (fun H => kk (.sc (.int .i64 (-1))) H) fds k H fun k' H => An .add i (.sc (.int .i64 1)) fun i' => L m a k' i' H) (kk k H)) :
  ∀ (r i m : Nat) (P S : List AV) (k : Int) (H : Aa), P.length = i * w → i + r = len → r < m → Eu (Cn r (fds.map FD.f)) S → 0 ≤ k → k + A5 (Cn r (fds.map FD.f)) S ≤ 4611686018427387904 → cells = P ++ (Bg (Cn r (fds.map FD.f)) k S).1 →
   (∀ X, kk (.sc (.int .i64 (Bg (Cn r (fds.map FD.f)) k S).2)) (H ++ X) = res) →
   L m (.ro len cells) (.sc (.int .i64 k)) (.sc (.int .i64 i)) H = res
 | 0, i, m + 1, P, S, k, H, hP, hr, hm, hwf, h0, h1, hc, h => by
  have hS : S = [] := by
   have := Em hwf
   simp [Cn] at this
   exact List.eq_nil_of_length_eq_zero this.symm
  subst hS
  obtain rfl : i = len := by omega
  rw [hL, Eo, Ei, Bi, if_neg (by simp)]
  have := h []
  simp only [List.append_nil, Bg] at this ⊢
  exact this
 | r + 1, i, m + 1, P, S, k, H, hP, hr, hm, hwf, h0, h1, hc, h => by
  have hi : i < len := by omega
  have hml : (fds.map FD.f).length = w := by simp [hw]
  have hSl : S.length = (r + 1) * w := by
   have := Em hwf
   rw [N9, hml] at this
   exact this.symm
  obtain ⟨R, S', rfl, hRl⟩ : ∃ R S', S = R ++ S' ∧ R.length = w := ⟨S.take w, S.drop w, (List.take_append_drop w S).symm, by rw [List.length_take, hSl, Nat.succ_mul]; omega⟩
  rw [Cu] at hwf h1 h hc
  have hl : (fds.map FD.f).length = R.length := by rw [hml, hRl]
  obtain ⟨hwR, hwS⟩ := (C8 hl).1 hwf
  rw [Cs _ _ _ _ hl] at h1
  rw [D5 _ _ _ _ _ hl] at h hc
  have hkc := Ej R (fds.map FD.f) k
  have hRl' := Gn R (fds.map FD.f) k
  have hcl : i * w < cells.length := by
   rw [hc, List.length_append, List.length_append, hRl', hRl, hP]
   omega
  rw [hL, Eo, Ei, Bi, if_pos (by simpa using hi)]
  refine Tj (w := w) (tI := tI) hT hi cells hcl fds 0 P R (Bg (Cn r (fds.map FD.f)) (Bg (fds.map FD.f) k R).2 S').1 k H _ hf (by rw [hP, Nat.add_zero]) hwR h0 (by omega) hc fun X => ?_
  rw [Jq _ _ (by omega)]
  exact U9 hT hf hw hw0 hlen cells L kk hL r (i + 1) m (P ++ (Bg (fds.map FD.f) k R).1) S' (Bg (fds.map FD.f) k R).2 (H ++ X) (by rw [List.length_append, hP, hRl', hRl, Nat.succ_mul]) (by omega) (by omega) hwS (by omega) (by omega) (by rw [hc, List.append_assoc]) (fun Y => by
   have := h (X ++ Y)
   rw [List.append_assoc]
   exact this)
theorem Hy {tS tI gT w f : Nat} {fds : List FD} (hh : Bl f = false) (hT : Hd n tS gT) (hf : Wa n 0 fds) (hw : fds.length = w) (hw0 : 0 < w) (hn : 1048576 < n)
  (L : (AV → Aa → Option AV) → Nat → AV → AV → AV → Aa → Option AV)
  (hL : ∀ kk m a k i H, L kk (m + 1) a k i H = Fc a fun t8 => An .lss i t8 fun t9 => A7 t9 (Dz (PR n AV) tS tI gT w a i (fun H => kk (.sc (.int .i64 (-1))) H) fds k H fun k' H => An .add i (.sc (.int .i64 1)) fun i' => L kk m a k' i' H) (kk k H))
  (hF : ∀ a b H kk, Be E0 (n + 1) AV f [a, b] H kk = L kk n a b (.sc (.int .i64 0)) H) : F2 (n + 1) f (fds.map FD.f) := by
 refine ⟨hh, fun ty len cells k hwf h0 hb => ?_⟩
 obtain ⟨hlen, hcl, hwl⟩ := (show len ≤ 1048576 ∧ cells.length = len * (fds.map FD.f).length ∧ Eu (Cn len (fds.map FD.f)) cells from hwf)
 rw [Ax, hF]
 exact U9 (n := n) hT hf hw hw0 hlen (Bg (Cn len (fds.map FD.f)) k cells).1 (L fun x H => A6 Ad E0.tp ty H x) (fun x H => A6 Ad E0.tp ty H x) (hL _) len 0 n [] cells k [] (by simp) (by omega) (by omega) hwl h0 hb rfl (fun X => rfl)
end
section
open Go
section txt
theorem Vv (v : AV) (h : Bv v = some [v]) : Eg [(.sc (.int .u8 0))] [(0, 1, v)] = some [v] := by
 simp [Eg, h, B4]
theorem Tb (H : Aa) (b : UInt8) : Bn (H ++ [⟨[.sc (.int .u8 b.toNat)], true, true⟩]) 1 (.sl H.length 0 1 1) = some [.sc (.int .u8 b.toNat)] := by
 simp only [Bn, if_true, Ae, Kg H _ []]
 rfl
theorem Ts {k : Nat} (h : ¬ k = 0) (out : ByteArray) : Oz k out = Oz (k / 10) (⟨#[UInt8.ofNat (48 + k % 10)]⟩ ++ out) := by
 rw [Oz, dif_neg h]
theorem Oh {n ty : Nat} (L : Nat → AV → AV → Aa → Option AV)
  (hL : ∀ m k s H, L (m + 1) k s H = An .gtr k (.sc (.int .i64 0)) fun t7 => A7 t7 (An .rem k (.sc (.int .i64 10)) fun t9 => An .add (.sc (.int .i64 48)) t9 fun t10 => S3 .u8 t10 fun t11 =>
   (Eg [(.sc (.int .u8 0))] [(0, 1, t11)]).bind fun ct12 => Dj 1 1 ct12 true H fun t12 H => Jd t12 H fun t13 => An .add t13 s fun t15 => An .quo k (.sc (.int .i64 10)) fun t17 => L m t17 t15 H)
   (An .add (.sc (.string ⟨#[109]⟩)) s fun t19 => A6 Ad E0.tp ty H t19)) :
  ∀ (b m k : Nat) (out : ByteArray) (H : Aa), k ≤ 4611686018427387904 → k < 10 ^ b → b < m → out.size + b ≤ 1000 → L m (.sc (.int .i64 k)) (.sc (.string out)) H = some (.sc (.string (⟨#[109]⟩ ++ Oz k out)))
 | b, 0, k, out, H, hk0, h1, h2, h3 => by omega
 | b, m + 1, k, out, H, hk0, h1, h2, h3 => by
  rw [hL, AaM, Bi]
  by_cases hk : k = 0
  ·subst hk
   rw [if_neg (by simp)]
   have hs : (⟨#[109]⟩ : ByteArray).size + out.size ≤ 9223372036854775807 := by
    show 1 + out.size ≤ _
    omega
   show (L0 .add ⟨#[109]⟩ out).bind _ = _
   simp only [L0, if_pos hs, Option.bind_some]
   rw [Oz, dif_pos rfl]
   rfl
  ·rw [if_pos (by simp; omega)]
   have e9 : ∀ K : AV → Option AV, An .rem (.sc (.int .i64 (k : Int))) (.sc (.int .i64 10)) K = K (.sc (.int .i64 ((k % 10 : Nat) : Int))) := by
    intro K
    show K (.sc (.int .i64 ((k : Int).tmod 10))) = _
    rw [show ((k : Int).tmod 10) = ((k % 10 : Nat) : Int) from by
     rw [Int.tmod_eq_emod_of_nonneg (by omega)]; simp]
   have e10 : ∀ K : AV → Option AV, An .add (.sc (.int .i64 48)) (.sc (.int .i64 ((k % 10 : Nat) : Int))) K = K (.sc (.int .i64 ((48 + k % 10 : Nat) : Int))) := by
    intro K
    show K (.sc (.int .i64 (IntKind.i64.wrap (48 + ((k % 10 : Nat) : Int))))) = _
    rw [Qf _ (by omega) (by omega)]
    rfl
   have e11 : ∀ K : AV → Option AV, S3 .u8 (.sc (.int .i64 ((48 + k % 10 : Nat) : Int))) K = K (.sc (.int .u8 ((UInt8.ofNat (48 + k % 10)).toNat : Int))) := by
    intro K
    show K (.sc (.int .u8 (IntKind.u8.wrap ((48 + k % 10 : Nat) : Int)))) = _
    have : (UInt8.ofNat (48 + k % 10)).toNat = 48 + k % 10 := by
     rw [UInt8.toNat_ofNat']
     omega
    rw [this]
    have hw : IntKind.u8.wrap ((48 + k % 10 : Nat) : Int) = ((48 + k % 10 : Nat) : Int) := by
     have h10 : k % 10 < 10 := Nat.mod_lt _ (by decide)
     unfold IntKind.wrap
     simp [IntKind.bits, IntKind.signed]
     omega
    rw [hw]
   have e17 : ∀ K : AV → Option AV, An .quo (.sc (.int .i64 (k : Int))) (.sc (.int .i64 10)) K = K (.sc (.int .i64 ((k / 10 : Nat) : Int))) := by
    intro K
    show K (.sc (.int .i64 (IntKind.i64.wrap ((k : Int).tdiv 10)))) = _
    rw [Int.tdiv_eq_ediv_of_nonneg (by omega), Qf _ (by omega) (by omega)]
    rfl
   rw [e9, e10, e11, Vv _ rfl]
   have hb : ((UInt8.ofNat (48 + k % 10)).toNat : Int).toNat = (UInt8.ofNat (48 + k % 10)).toNat := Int.toNat_natCast _
   have hbb : ([.sc (.int .u8 ((UInt8.ofNat (48 + k % 10)).toNat : Int))] : List AV).mapM F5 = some [UInt8.ofNat (48 + k % 10)] := Fl [UInt8.ofNat (48 + k % 10)]
   simp only [Option.bind_some, Dj, Jd, Tb, hbb]
   have hs : (⟨#[UInt8.ofNat (48 + k % 10)]⟩ : ByteArray).size + out.size ≤ 9223372036854775807 := by
    show 1 + out.size ≤ _
    omega
   have e15 : ∀ K : AV → Option AV, An .add (.sc (.string ⟨[UInt8.ofNat (48 + k % 10)].toArray⟩)) (.sc (.string out)) K = K (.sc (.string (⟨#[UInt8.ofNat (48 + k % 10)]⟩ ++ out))) := by
    intro K
    show (L0 .add ⟨#[UInt8.ofNat (48 + k % 10)]⟩ out).bind _ = _
    simp only [L0, if_pos hs, Option.bind_some]
   rw [e15, e17]
   cases b with
   | zero => simp at h1; omega
   | succ b =>
    have hk10 : k / 10 < 10 ^ b := by
     rw [Nat.pow_succ] at h1
     omega
    have hsz : (⟨#[UInt8.ofNat (48 + k % 10)]⟩ ++ out : ByteArray).size = 1 + out.size := by
     rw [ByteArray.size_append]
     rfl
    rw [Oh (n := n) (ty := ty) L hL b m (k / 10) _ _ (by omega) hk10 (by omega) (by rw [hsz]; omega)]
    rw [Ts hk out]
end txt
theorem Aaw {n tS f : Nat} (hh : Bl f = false) (hn : 1048576 < n) (L : (AV → Aa → Option AV) → Nat → AV → AV → Aa → Option AV)
  (hL : ∀ kk m k s H, L kk (m + 1) k s H = An .gtr k (.sc (.int .i64 0)) fun t7 => A7 t7 (An .rem k (.sc (.int .i64 10)) fun t9 => An .add (.sc (.int .i64 48)) t9 fun t10 => S3 .u8 t10 fun t11 =>
   (Eg [(.sc (.int .u8 0))] [(0, 1, t11)]).bind fun ct12 => Dj 1 1 ct12 true H fun t12 H => Jd t12 H fun t13 => An .add t13 s fun t15 => An .quo k (.sc (.int .i64 10)) fun t17 => L kk m t17 t15 H)
   (An .add (.sc (.string ⟨#[109]⟩)) s fun t19 => kk t19 H))
  (hF : ∀ a H kk, Be E0 (n + 1) AV f [a] H kk = An .leq a (.sc (.int .i64 0)) fun t5 => A7 t5 (kk (.sc (.string ⟨#[109, 48]⟩)) H) (L kk n a (.sc (.string ⟨#[]⟩)) H)) : Hd (n + 1) tS f := by
 refine ⟨hh, fun k h0 h1 => ?_⟩
 rw [Ax, hF, AaP, Bi]
 by_cases hk : k ≤ 0
 ·rw [if_pos (by simpa using hk), AaR, S1, if_pos hk]
  rfl
 ·rw [if_neg (by simpa using hk)]
  obtain ⟨m, rfl⟩ : ∃ m : Nat, k = m := ⟨k.toNat, by omega⟩
  have := Oh (n := n) (ty := tS) (L fun x H => A6 Ad E0.tp tS H x) (hL _) 19 n m ⟨#[]⟩ [] (by omega) (by omega) (by omega) (by decide)
  rw [this, S1, if_neg hk]
  rfl
inductive FV where
 | skip
 | sub (fs : List MF) (path : List Nat) (g : FuncId)
 | agg (l : List MF) (path : List Nat) (w : Nat) (g : FuncId)
def Ai : List FV → List MF
 | [] => []
 | .skip :: r => .skip :: Ai r
 | .sub fs _ _ :: r => .sub fs :: Ai r
 | .agg l _ _ _ :: r => l ++ Ai r
def Le (n g : Nat) (cty : List Nat) (fs : List MF) : Prop := E0.hm g = true ∧ E0.ext g = none ∧ ∀ (cs : List AV) (k : Int) (β : Type) (A C : Aa) (K : KO β) (r : Option β), Eu fs cs → 0 ≤ k → k + A5 fs cs ≤ 4611686018427387904 →
 (∀ X, K (.sc (.int .i64 (Bg fs k cs).2)) (A ++ ((Ab Ad E0.tp A.length cty (Bg fs k cs).1).2 ++ (C ++ X))) = r) → Be E0 n β g [.agg (Ab Ad E0.tp A.length cty cs).1, .sc (.int .i64 k)] (A ++ ((Ab Ad E0.tp A.length cty cs).2 ++ C)) K = r
def Ld (n g : Nat) (fs : List MF) : Prop := Bl g = false ∧ ∀ (ty : Nat) (cs : List AV) (k : Int), Eu fs cs → 0 ≤ k → k + A5 fs cs ≤ 4611686018427387904 → Bp E0 n ty g [.agg (Bg fs k cs).1, .sc (.int .i64 k)] = some (.sc (.int .i64 (Bg fs k cs).2))
def V5 : MF → Bool
 | .skip => true
 | .sub _ => true
 | _ => false
def FvM (n : Nat) : Nat → List FV → List Nat → Prop
 | _, [], [] => True
 | off, .skip :: r, _ :: ts => FvM n (off + 1) r ts
 | off, .sub fs path g :: r, t :: ts => path.sum = off ∧ Fi n g t fs ∧ FvM n (off + 1) r ts
 | off, .agg l path w g :: r, ts => path.sum = off ∧ l.length = w ∧ 0 < w ∧ l.all V5 = true ∧ Le n g (ts.take w) l ∧ w ≤ ts.length ∧ FvM n (off + w) r (ts.drop w)
 | _, _, _ => False
def FvH (n : Nat) : Nat → List FV → Prop
 | _, [] => True
 | off, .skip :: r => FvH n (off + 1) r
 | off, .sub fs path g :: r => path.sum = off ∧ F2 n g fs ∧ FvH n (off + 1) r
 | off, .agg l path w g :: r => path.sum = off ∧ l.length = w ∧ 0 < w ∧ Ld n g l ∧ FvH n (off + w) r
section fns
variable {β : Type}
def Hf (p : Pr β) (tI : Nat) (x : AV) : List FV → AV → Aa → (KO β) → Option β
 | [], k, H, K => K k H
 | .skip :: r, k, H, K => Hf p tI x r k H K
 | .sub _ path g :: r, k, H, K => A4 p path x fun t => p.load false 1 t H fun v => p.call tI (.fn g [] []) [v, k] H fun k H => Hf p tI x r k H K
 | .agg _ path w g :: r, k, H, K => A4 p path x fun t => p.load true w t H fun v => p.call tI (.fn g [] []) [v, k] H fun k H => Hf p tI x r k H K
def G6 (p : Pr β) (tI : Nat) (x : AV) (F : Aa → Option β) : List FV → AV → Aa → (KO β) → Option β
 | [], k, H, K => K k H
 | .skip :: r, k, H, K => G6 p tI x F r k H K
 | .sub _ path g :: r, k, H, K => A4 p path x fun t => p.load false 1 t H fun v => p.call tI (.fn g [] []) [v, k] H fun k H => p.bin .lss k (.sc (.int .i64 0)) fun b => p.cond b (F H) (G6 p tI x F r k H K)
 | .agg _ path w g :: r, k, H, K => A4 p path x fun t => p.load true w t H fun v => p.call tI (.fn g [] []) [v, k] H fun k H => p.bin .lss k (.sc (.int .i64 0)) fun b => p.cond b (F H) (G6 p tI x F r k H K)
variable {n : Nat} {res : Option β}
theorem P3 {t g : Nat} {n : Nat} {fs : List MF} (h : Fi n g t fs) (k : Int) (m : Nat) (cells : List AV) (M : Nat) : (Ag Ad E0.tp M t (Ce (.sub fs) k (.ro m cells)).1).1 = (Ag Ad E0.tp M t (.ro m cells)).1 := by
 obtain ⟨_, _, ⟨j1, j2, hj1, hj2⟩, _⟩ := h
 rw [Gl hj1 hj2]
 show (Ag Ad E0.tp M t (.ro m _)).1 = _
 rw [Gl hj1 hj2]
theorem Kp {ti : Nat → Option TI} {tp : Nat → Option (List Nat)} : ∀ (cs : List AV) (fs : List MF) (k : Int) (N : Nat) (ts : List Nat), fs.all V5 = true → Eu fs cs → (Ab ti tp N ts (Bg fs k cs).1).1 = (Ab ti tp N ts cs).1
 | [], fs, k, N, ts, _, _ => by simp [Bg]
 | c :: cs, [], k, N, ts, _, hw => absurd rfl hw.1
 | c :: cs, f :: fs, k, N, ts, hv, hw => by
  obtain ⟨h1, h2⟩ := wfL_cons.1 hw
  rw [List.all_cons, Bool.and_eq_true] at hv
  have ih := Kp (ti := ti) (tp := tp) cs fs (Ce f k c).2 (N + Gp c) ts.tail hv.2 h2
  have hn := Mg c f k
  have e : (Ag ti tp N (ts.headD 0) (Ce f k c).1).1 = (Ag ti tp N (ts.headD 0) c).1 := by
   cases c with
   | sc v => cases f <;> first | rfl | (exfalso; simpa [V5] using hv.1)
   | ro m cells => cases f <;> first | rfl | exact h1.elim
   | _ => exact h1.elim
  show (Ag ti tp N (ts.headD 0) (Ce f k c).1).1 :: (Ab ti tp (N + (Ag ti tp N (ts.headD 0) (Ce f k c).1).2.length) ts.tail (Bg fs (Ce f k c).2 cs).1).1 = _ :: (Ab ti tp (N + (Ag ti tp N (ts.headD 0) c).2.length) ts.tail cs).1
  rw [Fp, Fp, e, hn, ih]
theorem L3 {tI idx : Nat} {ys : List AV} : ∀ (todo : List FV) (off : Nat) (Q R : List AV) (TP tR : List Nat) (k : Int) (A D : Aa) (K : KO β),
  FvM n off todo tR → TP.length = Q.length → Q.length = off → Eu (Ai todo) R → 0 ≤ k → k + A5 (Ai todo) R ≤ 4611686018427387904 →
  (Ab Ad E0.tp A.length (TP ++ tR) (Q ++ R)).1 = ys → D[idx]? = some ⟨ys, true, true⟩ →
  (∀ X, K (.sc (.int .i64 (Bg (Ai todo) k R).2)) (A ++ ((Ab Ad E0.tp A.length (TP ++ tR) (Q ++ (Bg (Ai todo) k R).1)).2 ++ (D ++ X))) = res) →
  Hf (PR n β) tI (.ptr (A.length + A8 (Q ++ R) + idx) 0) todo (.sc (.int .i64 k)) (A ++ ((Ab Ad E0.tp A.length (TP ++ tR) (Q ++ R)).2 ++ D)) K = res
 | [], off, Q, R, TP, tR, k, A, D, K, hf, hT, hq, hw, h0, h1, hy, hD, h => by
  cases R with
  | nil =>
   have := h []
   rw [List.append_nil D] at this
   exact this
  | cons c R => exact absurd rfl hw.1
 | .skip :: todo, off, Q, R, TP, tR, k, A, D, K, hf, hT, hq, hw, h0, h1, hy, hD, h => by
  cases R with
  | nil => exact absurd (show MF.skip :: Ai todo = [] from hw) (by simp)
  | cons c R =>
  cases tR with
  | nil => exact hf.elim
  | cons t tR =>
  obtain ⟨hwc, hwR⟩ := wfL_cons.1 (show Eu (MF.skip :: Ai todo) (c :: R) from hw)
  obtain ⟨v, rfl⟩ : ∃ v, c = .sc v := by
   cases c <;> first | exact ⟨_, rfl⟩ | exact hwc.elim
  have e1 : Q ++ .sc v :: R = (Q ++ [.sc v]) ++ R := by simp
  have e2 : TP ++ t :: tR = (TP ++ [t]) ++ tR := by simp
  have h1 : k + (0 + A5 (Ai todo) R : Nat) ≤ 4611686018427387904 := h1
  rw [e1, e2] at hy ⊢
  refine L3 todo (off + 1) (Q ++ [.sc v]) R (TP ++ [t]) tR k A D K hf (by simp [hT]) (by simp [hq]) hwR h0 (by omega) hy hD fun X => ?_
  have := h X
  rw [e2] at this
  simp only [List.append_assoc] at this ⊢
  exact this
 | .sub fs path g :: todo, off, Q, R, TP, tR, k, A, D, K, hf, hT, hq, hw, h0, h1, hy, hD, h => by
  cases R with
  | nil => exact absurd (show MF.sub fs :: Ai todo = [] from hw) (by simp)
  | cons c R =>
  cases tR with
  | nil => exact hf.elim
  | cons t tR =>
  obtain ⟨hpath, hmk, hrest⟩ := hf
  obtain ⟨hwc, hwR⟩ := wfL_cons.1 (show Eu (MF.sub fs :: Ai todo) (c :: R) from hw)
  obtain ⟨m, cells, rfl⟩ : ∃ m cells, c = .ro m cells := by
   cases c with
   | ro m cells => exact ⟨m, cells, rfl⟩
   | sc v => exact hwc.elim
   | _ => exact hwc.elim
  have h1 : k + (Bc (.sub fs) (.ro m cells) + A5 (Ai todo) R : Nat) ≤ 4611686018427387904 := h1
  have hk' := H8 (.ro m cells) (.sub fs) k
  have hn' := Mg (.ro m cells) (.sub fs) k
  have hs' := P3 hmk k m cells
  have hmk2 := hmk.2.2.2 m cells k hwc h0 (by omega)
  have hl : (Ab Ad E0.tp A.length TP Q).1.length = Q.length := Ct _ _ _
  have hsplit := fun (x : AV) => H0 (ti := Ad) (tp := E0.tp) TP tR t Q R x A.length hT
  rw [hsplit] at hy
  have hys : ys.drop off = (Ag Ad E0.tp (A.length + A8 Q) t (.ro m cells)).1 :: (Ab Ad E0.tp (A.length + A8 Q + Gp (.ro m cells)) tR R).1 := by
   rw [← hy, ← hq, ← hl, List.drop_append_of_le_length (Nat.le_refl _), List.drop_length, List.nil_append]
  have hlen : (Ab Ad E0.tp A.length (TP ++ t :: tR) (Q ++ .ro m cells :: R)).2.length = A8 (Q ++ .ro m cells :: R) := Aw _ _ _
  show (A4 (PR n β) path (.ptr (A.length + A8 (Q ++ .ro m cells :: R) + idx) 0) fun t => Ao false 1 t _ fun v => (PR n β).call tI (.fn g [] []) [v, .sc (.int .i64 k)] _ fun k H => Hf (PR n β) tI _ todo k H K) = res
  rw [Dw, hpath, Nat.zero_add]
  have hget : (A ++ ((Ab Ad E0.tp A.length (TP ++ t :: tR) (Q ++ .ro m cells :: R)).2 ++ D))[A.length + A8 (Q ++ .ro m cells :: R) + idx]? = some ⟨ys, true, true⟩ := by
   rw [List.getElem?_append_right (by omega), List.getElem?_append_right (by omega), hlen]
   rw [show A.length + A8 (Q ++ .ro m cells :: R) + idx - A.length - A8 (Q ++ .ro m cells :: R) = idx by omega]
   exact hD
  have hld : Ae (A ++ ((Ab Ad E0.tp A.length (TP ++ t :: tR) (Q ++ .ro m cells :: R)).2 ++ D)) (A.length + A8 (Q ++ .ro m cells :: R) + idx) off 1 = some [(Ag Ad E0.tp (A.length + A8 Q) t (.ro m cells)).1] := by
   have hle : off + 1 ≤ ys.length := by
    have := congrArg List.length hys
    rw [List.length_drop, List.length_cons] at this
    omega
   simp only [Ae, hget, if_true, hle, hys]
   rfl
  rw [V6 hld, Qh hmk.1 hmk.2.1]
  have e : ∀ (x : AV) (B : Aa), A ++ ((Ab Ad E0.tp A.length (TP ++ t :: tR) (Q ++ x :: R)).2 ++ B) = (A ++ (Ab Ad E0.tp A.length TP Q).2) ++ ((Ag Ad E0.tp (A.length + A8 Q) t x).2 ++ ((Ab Ad E0.tp (A.length + A8 Q + Gp x) tR R).2 ++ B)) := by
   intro x B
   simp only [hsplit, List.append_assoc]
  have hN : (A ++ (Ab Ad E0.tp A.length TP Q).2).length = A.length + A8 Q := by rw [List.length_append, Aw]
  rw [e]
  have key := hmk2 β (A ++ (Ab Ad E0.tp A.length TP Q).2) ((Ab Ad E0.tp (A.length + A8 Q + Gp (.ro m cells)) tR R).2 ++ D) (fun k H => Hf (PR n β) tI (.ptr (A.length + A8 (Q ++ .ro m cells :: R) + idx) 0) todo k H K) res
  rw [hN] at key
  refine key fun X => ?_
  generalize hc' : (Ce (.sub fs) k (.ro m cells)).1 = c' at hn' hs' h ⊢
  have e1 : ∀ (Y : List AV), Q ++ c' :: Y = (Q ++ [c']) ++ Y := fun Y => by simp
  have e2 : TP ++ t :: tR = (TP ++ [t]) ++ tR := by simp
  have e3 : A8 (Q ++ .ro m cells :: R) = A8 ((Q ++ [c']) ++ R) := by
   rw [Bz, Bz, Bz]
   show A8 Q + (Gp (.ro m cells) + A8 R) = A8 Q + (Gp c' + 0) + A8 R
   rw [hn']
   omega
  have e4 := e c' (D ++ X)
  rw [hn'] at e4
  rw [List.append_assoc (Ab Ad E0.tp (A.length + A8 Q + Gp (.ro m cells)) tR R).2 D X, ← e4, e3, e2, e1 R]
  refine L3 (tI := tI) (idx := idx) (ys := ys) todo (off + 1) (Q ++ [c']) R (TP ++ [t]) tR (Ce (.sub fs) k (.ro m cells)).2 A (D ++ X) K hrest (by simp [hT]) (by simp [hq]) hwR (by omega) (by omega) ?_ ?_ fun Y => ?_
  ·rw [← e1, ← e2, hsplit, hs', hn', hy]
  ·rw [List.getElem?_append_left (List.getElem?_eq_some_iff.1 hD).1]
   exact hD
  ·have := h (X ++ Y)
   have hm : Bg (Ai (.sub fs path g :: todo)) k (.ro m cells :: R) = (c' :: (Bg (Ai todo) (Ce (.sub fs) k (.ro m cells)).2 R).1, (Bg (Ai todo) (Ce (.sub fs) k (.ro m cells)).2 R).2) := by rw [← hc']; rfl
   rw [hm, e2, e1] at this
   rw [List.append_assoc D X Y]
   exact this
 | .agg l path w g :: todo, off, Q, R, TP, tR, k, A, D, K, hf, hT, hq, hw, h0, h1, hy, hD, h => by
  obtain ⟨hpath, hlw, hw0, hlv, hmk, hwt, hrest⟩ := hf
  have hRlen : w ≤ R.length := by
   have := Em (show Eu (l ++ Ai todo) R from hw)
   rw [List.length_append] at this
   omega
  obtain ⟨c, R, rfl, hcl⟩ : ∃ c R', R = c ++ R' ∧ c.length = w := ⟨R.take w, R.drop w, (List.take_append_drop w R).symm, by rw [List.length_take]; omega⟩
  obtain ⟨t, tR, rfl, htl⟩ : ∃ c R', tR = c ++ R' ∧ c.length = w := ⟨tR.take w, tR.drop w, (List.take_append_drop w tR).symm, by rw [List.length_take]; omega⟩
  rw [List.take_left' htl] at hmk
  rw [List.drop_left' htl] at hrest
  have hlc : l.length = c.length := by rw [hlw, hcl]
  obtain ⟨hwc, hwR⟩ := (C8 hlc).1 (show Eu (l ++ Ai todo) (c ++ R) from hw)
  have h1 : k + (A5 l c + A5 (Ai todo) R : Nat) ≤ 4611686018427387904 := by
   have := Cs l (Ai todo) c R hlc
   rw [← this]
   exact h1
  have hk' := Ej c l k
  have hn' := F9 c l k
  have hl' := Gn c l k
  have hs' := fun N => Kp (ti := Ad) (tp := E0.tp) c l k N t hlv hwc
  have hl : (Ab Ad E0.tp A.length TP Q).1.length = Q.length := Ct _ _ _
  have hsplit : ∀ x : List AV, x.length = c.length → Ab Ad E0.tp A.length (TP ++ (t ++ tR)) (Q ++ (x ++ R)) = ((Ab Ad E0.tp A.length TP Q).1 ++ ((Ab Ad E0.tp (A.length + A8 Q) t x).1 ++ (Ab Ad E0.tp (A.length + A8 Q + A8 x) tR R).1), (Ab Ad E0.tp A.length TP Q).2 ++ ((Ab Ad E0.tp (A.length + A8 Q) t x).2 ++ (Ab Ad E0.tp (A.length + A8 Q + A8 x) tR R).2)) := by
   intro x hx
   rw [Cz TP Q (t ++ tR) (x ++ R) _ hT, Aw, Cz t x tR R _ (by rw [htl, hx, hcl]), Aw]
  rw [hsplit c rfl] at hy
  have hil : (Ab Ad E0.tp (A.length + A8 Q) t c).1.length = w := by rw [Ct, hcl]
  have hys : ys.drop off = (Ab Ad E0.tp (A.length + A8 Q) t c).1 ++ (Ab Ad E0.tp (A.length + A8 Q + A8 c) tR R).1 := by
   rw [← hy, ← hq, ← hl, List.drop_append_of_le_length (Nat.le_refl _), List.drop_length, List.nil_append]
  have hlen : (Ab Ad E0.tp A.length (TP ++ (t ++ tR)) (Q ++ (c ++ R))).2.length = A8 (Q ++ (c ++ R)) := Aw _ _ _
  show (A4 (PR n β) path (.ptr (A.length + A8 (Q ++ (c ++ R)) + idx) 0) fun t => Ao true w t _ fun v => (PR n β).call tI (.fn g [] []) [v, .sc (.int .i64 k)] _ fun k H => Hf (PR n β) tI _ todo k H K) = res
  rw [Dw, hpath, Nat.zero_add]
  have hget : (A ++ ((Ab Ad E0.tp A.length (TP ++ (t ++ tR)) (Q ++ (c ++ R))).2 ++ D))[A.length + A8 (Q ++ (c ++ R)) + idx]? = some ⟨ys, true, true⟩ := by
   rw [List.getElem?_append_right (by omega), List.getElem?_append_right (by omega), hlen]
   rw [show A.length + A8 (Q ++ (c ++ R)) + idx - A.length - A8 (Q ++ (c ++ R)) = idx by omega]
   exact hD
  have hld : Ae (A ++ ((Ab Ad E0.tp A.length (TP ++ (t ++ tR)) (Q ++ (c ++ R))).2 ++ D)) (A.length + A8 (Q ++ (c ++ R)) + idx) off w = some (Ab Ad E0.tp (A.length + A8 Q) t c).1 := by
   have hle : off + w ≤ ys.length := by
    have := congrArg List.length hys
    rw [List.length_drop, List.length_append, hil] at this
    omega
   simp only [Ae, hget, if_true, hle, hys]
   rw [List.take_left' hil]
  rw [ldT hld, Qh hmk.1 hmk.2.1]
  have e : ∀ (x : List AV) (B : Aa), x.length = c.length → A ++ ((Ab Ad E0.tp A.length (TP ++ (t ++ tR)) (Q ++ (x ++ R))).2 ++ B) = (A ++ (Ab Ad E0.tp A.length TP Q).2) ++ ((Ab Ad E0.tp (A.length + A8 Q) t x).2 ++ ((Ab Ad E0.tp (A.length + A8 Q + A8 x) tR R).2 ++ B)) := by
   intro x B hx
   simp only [hsplit x hx, List.append_assoc]
  have hN : (A ++ (Ab Ad E0.tp A.length TP Q).2).length = A.length + A8 Q := by rw [List.length_append, Aw]
  rw [e c _ rfl]
  have key := hmk.2.2 c k β (A ++ (Ab Ad E0.tp A.length TP Q).2) ((Ab Ad E0.tp (A.length + A8 Q + A8 c) tR R).2 ++ D) (fun k H => Hf (PR n β) tI (.ptr (A.length + A8 (Q ++ (c ++ R)) + idx) 0) todo k H K) res hwc h0 (by omega)
  rw [hN] at key
  refine key fun X => ?_
  have hm : Bg (Ai (.agg l path w g :: todo)) k (c ++ R) = ((Bg l k c).1 ++ (Bg (Ai todo) (Bg l k c).2 R).1, (Bg (Ai todo) (Bg l k c).2 R).2) := D5 l (Ai todo) k c R hlc
  generalize hc' : (Bg l k c).1 = c' at hn' hl' hs' hm ⊢
  have e1 : ∀ (Y : List AV), Q ++ (c' ++ Y) = (Q ++ c') ++ Y := fun Y => by simp
  have e2 : TP ++ (t ++ tR) = (TP ++ t) ++ tR := by simp
  have e3 : A8 (Q ++ (c ++ R)) = A8 ((Q ++ c') ++ R) := by
   rw [Bz, Bz, Bz, Bz, hn']
   omega
  have e4 := e c' (D ++ X) hl'
  rw [hn'] at e4
  rw [List.append_assoc (Ab Ad E0.tp (A.length + A8 Q + A8 c) tR R).2 D X, ← e4, e3, e2, e1 R]
  refine L3 (tI := tI) (idx := idx) (ys := ys) todo (off + w) (Q ++ c') R (TP ++ t) tR (Bg l k c).2 A (D ++ X) K hrest (by simp [hT, htl, hl', hcl]) (by simp [hq, hl', hcl]) hwR (by omega) (by omega) ?_ ?_ fun Y => ?_
  ·rw [← e1, ← e2, hsplit _ hl', hs', hn', hy]
  ·rw [List.getElem?_append_left (List.getElem?_eq_some_iff.1 hD).1]
   exact hD
  ·have := h (X ++ Y)
   rw [hm, e2, e1] at this
   rw [List.append_assoc D X Y]
   exact this
theorem Kn {tI f : Nat} {cty : List Nat} {fvs : List FV} (hh : E0.hm f = true) (hx : E0.ext f = none) (hf : FvM n 0 fvs cty) (hv : (Ai fvs).all V5 = true) (hlf : ∀ (cs : List AV) (N : Nat), Eu (Ai fvs) cs → (Ab Ad E0.tp N cty cs).1.all Am = true)
  (hF : ∀ β a b H kk, Be E0 (n + 1) β f [a, b] H kk = Mj a H fun x H => Hf (PR n β) tI x fvs b H kk) : Le (n + 1) f cty (Ai fvs) := by
 refine ⟨hh, hx, fun cs k β A C K r hw h0 hb h => ?_⟩
 rw [hF]
 have hc : Bv (.agg (Ab Ad E0.tp A.length cty cs).1) = some (Ab Ad E0.tp A.length cty cs).1 := by
  show (if _ then _ else none) = _
  rw [if_pos (hlf cs _ hw)]
 simp only [Mj, hc, Option.bind_some, Mk]
 have hlen : (Ab Ad E0.tp A.length cty cs).2.length = A8 cs := Aw _ _ _
 have e1 : (A ++ ((Ab Ad E0.tp A.length cty cs).2 ++ C)).length = A.length + A8 ([] ++ cs) + C.length := by
  simp only [List.length_append, hlen, List.nil_append]
  omega
 rw [e1]
 have e2 : A ++ ((Ab Ad E0.tp A.length cty cs).2 ++ C) ++ [⟨(Ab Ad E0.tp A.length cty cs).1, true, true⟩] = A ++ ((Ab Ad E0.tp A.length ([] ++ cty) ([] ++ cs)).2 ++ (C ++ [⟨(Ab Ad E0.tp A.length cty cs).1, true, true⟩])) := by simp
 rw [e2]
 refine L3 fvs 0 [] cs [] cty k A _ K hf rfl rfl hw h0 hb rfl (by rw [List.getElem?_append_right (Nat.le_refl _), Nat.sub_self]; rfl) fun X => ?_
 have := h ([⟨(Ab Ad E0.tp A.length cty cs).1, true, true⟩] ++ X)
 simp only [List.append_assoc, List.nil_append] at this ⊢
 exact this
theorem Jn {tI : Nat} {F : Aa → Option β} (cells : List AV) (hfl : cells.all Dp = true) : ∀ (todo : List FV) (off : Nat) (Q R : List AV) (k : Int) (H : Aa) (K : KO β),
  FvH n off todo → Q.length = off → Eu (Ai todo) R → 0 ≤ k → k + A5 (Ai todo) R ≤ 4611686018427387904 → cells = Q ++ (Bg (Ai todo) k R).1 → H[0]? = some ⟨cells, true, true⟩ →
  (∀ X, K (.sc (.int .i64 (Bg (Ai todo) k R).2)) (H ++ X) = res) →
  G6 (PR n β) tI (.ptr 0 0) F todo (.sc (.int .i64 k)) H K = res
 | [], off, Q, R, k, H, K, hf, hq, hw, h0, h1, hc, hH, h => by
  cases R with
  | nil =>
   have := h []
   rw [List.append_nil H] at this
   exact this
  | cons c R => exact absurd rfl hw.1
 | .skip :: todo, off, Q, R, k, H, K, hf, hq, hw, h0, h1, hc, hH, h => by
  cases R with
  | nil => exact absurd (show MF.skip :: Ai todo = [] from hw) (by simp)
  | cons c R =>
  obtain ⟨hwc, hwR⟩ := wfL_cons.1 (show Eu (MF.skip :: Ai todo) (c :: R) from hw)
  obtain ⟨v, rfl⟩ : ∃ v, c = .sc v := by
   cases c <;> first | exact ⟨_, rfl⟩ | exact hwc.elim
  have h1 : k + (0 + A5 (Ai todo) R : Nat) ≤ 4611686018427387904 := h1
  exact Jn cells hfl todo (off + 1) (Q ++ [.sc v]) R k H K hf (by simp [hq]) hwR h0 (by omega) (by rw [List.append_assoc]; exact hc) hH h
 | .sub fs path g :: todo, off, Q, R, k, H, K, hf, hq, hw, h0, h1, hc, hH, h => by
  cases R with
  | nil => exact absurd (show MF.sub fs :: Ai todo = [] from hw) (by simp)
  | cons c R =>
  obtain ⟨hpath, hhe, hrest⟩ := hf
  obtain ⟨hwc, hwR⟩ := wfL_cons.1 (show Eu (MF.sub fs :: Ai todo) (c :: R) from hw)
  obtain ⟨m, cs, rfl⟩ : ∃ m cells, c = .ro m cells := by
   cases c with
   | ro m cells => exact ⟨m, cells, rfl⟩
   | sc v => exact hwc.elim
   | _ => exact hwc.elim
  have h1 : k + (Bc (.sub fs) (.ro m cs) + A5 (Ai todo) R : Nat) ≤ 4611686018427387904 := h1
  have hk' := H8 (.ro m cs) (.sub fs) k
  have hm : Bg (Ai (.sub fs path g :: todo)) k (.ro m cs :: R) = ((Ce (.sub fs) k (.ro m cs)).1 :: (Bg (Ai todo) (Ce (.sub fs) k (.ro m cs)).2 R).1, (Bg (Ai todo) (Ce (.sub fs) k (.ro m cs)).2 R).2) := rfl
  rw [hm] at hc h
  have hld : Ae H 0 off 1 = some [(Ce (.sub fs) k (.ro m cs)).1] := by
   have hle : off + 1 ≤ cells.length := by
    rw [hc, List.length_append, List.length_cons]
    omega
   have hd : (cells.drop off).take 1 = [(Ce (.sub fs) k (.ro m cs)).1] := by
    rw [hc, ← hq, List.drop_append_of_le_length (Nat.le_refl _), List.drop_length]
    rfl
   simp only [Ae, hH, if_true, hle, hd]
  show (A4 (PR n β) path (.ptr 0 0) fun t => Ao false 1 t H fun v => (PR n β).call tI (.fn g [] []) [v, .sc (.int .i64 k)] H fun k H => An .lss k (.sc (.int .i64 0)) fun b => A7 b (F H) (G6 (PR n β) tI _ F todo k H K)) = res
  rw [Dw, hpath, Nat.zero_add, V6 hld, Do (vs := [(Ce (.sub fs) k (.ro m cs)).1, .sc (.int .i64 k)]) hhe.1 rfl (hhe.2 tI m cs k hwc h0 (by omega)), B0, List.append_nil]
  simp only
  rw [Q6, Bi, if_neg (by simp; omega)]
  exact Jn cells hfl todo (off + 1) (Q ++ [(Ce (.sub fs) k (.ro m cs)).1]) R _ H K hrest (by simp [hq]) hwR (by omega) (by omega) (by rw [List.append_assoc]; exact hc) hH h
 | .agg l path w g :: todo, off, Q, R, k, H, K, hf, hq, hw, h0, h1, hc, hH, h => by
  obtain ⟨hpath, hlw, hw0, hhe, hrest⟩ := hf
  have hRlen : w ≤ R.length := by
   have := Em (show Eu (l ++ Ai todo) R from hw)
   rw [List.length_append] at this
   omega
  obtain ⟨c, R, rfl, hcl⟩ : ∃ c R', R = c ++ R' ∧ c.length = w := ⟨R.take w, R.drop w, (List.take_append_drop w R).symm, by rw [List.length_take]; omega⟩
  have hlc : l.length = c.length := by rw [hlw, hcl]
  obtain ⟨hwc, hwR⟩ := (C8 hlc).1 (show Eu (l ++ Ai todo) (c ++ R) from hw)
  have h1 : k + (A5 l c + A5 (Ai todo) R : Nat) ≤ 4611686018427387904 := by
   have := Cs l (Ai todo) c R hlc
   rw [← this]
   exact h1
  have hk' := Ej c l k
  have hl' := Gn c l k
  have hm : Bg (Ai (.agg l path w g :: todo)) k (c ++ R) = ((Bg l k c).1 ++ (Bg (Ai todo) (Bg l k c).2 R).1, (Bg (Ai todo) (Bg l k c).2 R).2) := D5 l (Ai todo) k c R hlc
  rw [hm] at hc h
  have hd : (cells.drop off).take w = (Bg l k c).1 := by
   rw [hc, ← hq, List.drop_append_of_le_length (Nat.le_refl _), List.drop_length, List.nil_append, List.take_left' (by rw [hl', hcl])]
  have hld : Ae H 0 off w = some (Bg l k c).1 := by
   have hle : off + w ≤ cells.length := by
    rw [hc, List.length_append, List.length_append, hl', hcl]
    omega
   simp only [Ae, hH, if_true, hle, hd]
  have hfc : (Bg l k c).1.all Dp = true := by
   rw [hc, List.all_append, List.all_append, Bool.and_eq_true, Bool.and_eq_true] at hfl
   exact hfl.2.1
  show (A4 (PR n β) path (.ptr 0 0) fun t => Ao true w t H fun v => (PR n β).call tI (.fn g [] []) [v, .sc (.int .i64 k)] H fun k H => An .lss k (.sc (.int .i64 0)) fun b => A7 b (F H) (G6 (PR n β) tI _ F todo k H K)) = res
  rw [Dw, hpath, Nat.zero_add, ldT hld, Do (vs := [.agg (Bg l k c).1, .sc (.int .i64 k)]) hhe.1 (El (On _ hfc) (El (I1 _ _) Qe)) (hhe.2 tI c k hwc h0 (by omega)), B0, List.append_nil]
  simp only
  rw [Q6, Bi, if_neg (by simp; omega)]
  exact Jn cells hfl todo (off + w) (Q ++ (Bg l k c).1) R _ H K hrest (by simp [hq, hl', hcl]) hwR (by omega) (by omega) (by rw [List.append_assoc]; exact hc) hH h
theorem Vb : ∀ (cs : List AV) (fs : List MF) (k : Int), Eu fs cs → fs.all V5 = true → (Bg fs k cs).1.all Dp = true
 | [], fs, k, _, _ => by simp [Bg]
 | c :: cs, [], k, hw, _ => absurd rfl hw.1
 | c :: cs, f :: fs, k, hw, hv => by
  obtain ⟨h1, h2⟩ := wfL_cons.1 hw
  rw [List.all_cons, Bool.and_eq_true] at hv
  rw [Ko, List.all_cons, Vb cs fs _ h2 hv.2, Bool.and_true]
  cases c with
  | sc v => cases f <;> first | exact h1 | (exfalso; simpa [V5] using hv.1) | exact h1.elim
  | ro m cells => cases f <;> first | rfl | exact h1.elim
  | _ => exact h1.elim
theorem Kh {tI f : Nat} {fvs : List FV} (hh : Bl f = false) (hf : FvH n 0 fvs) (hv : (Ai fvs).all V5 = true)
  (hF : ∀ a b H kk, Be E0 (n + 1) AV f [a, b] H kk = Mj a H fun x H => G6 (PR n AV) tI x (fun H => kk (.sc (.int .i64 (-1))) H) fvs b H kk) : Ld (n + 1) f (Ai fvs) := by
 refine ⟨hh, fun ty cs k hw h0 hb => ?_⟩
 have hfl := Vb cs (Ai fvs) k hw hv
 rw [Ax, hF, D1 _ _ _ hfl]
 exact Jn (Bg (Ai fvs) k cs).1 hfl fvs 0 [] cs k _ _ hf rfl hw h0 hb rfl rfl (fun X => rfl)
end fns
end
section
open Go
def AtT (H : Aa) (y : AV) (N ty : Nat) (t : AV) : Prop := y = (Ag Ad E0.tp N ty t).1 ∧ N + Gp t ≤ H.length ∧ Lies H N (Ag Ad E0.tp N ty t).2
def AtL (H : Aa) (ys : List AV) (N : Nat) (ts : List Nat) (cs : List AV) : Prop := ys = (Ab Ad E0.tp N ts cs).1 ∧ N + A8 cs ≤ H.length ∧ Lies H N (Ab Ad E0.tp N ts cs).2
def Rk (H H' : Aa) (N m : Nat) : Prop := H.length ≤ H'.length ∧ ∀ (i : Nat) b, H[i]? = some b → (i < N ∨ N + m ≤ i) → H'[i]? = some b
theorem Lies.grow {H : Aa} {N : Nat} {B : List C3} (h : Lies H N B) (X : List C3) : Lies (H ++ X) N B := fun j b hj => by
 have := h j b hj
 rw [List.getElem?_append_left (List.getElem?_eq_some_iff.1 this).1]
 exact this
theorem Lies.kept {H H' : Aa} {N M m : Nat} {B : List C3} (h : Lies H N B) (k : Rk H H' M m) (hd : N + B.length ≤ M ∨ M + m ≤ N) : Lies H' N B := fun j b hj => by
 have hlt := (List.getElem?_eq_some_iff.1 hj).1
 exact k.2 _ b (h j b hj) (by omega)
theorem AtT.grow {H : Aa} {y : AV} {N ty : Nat} {t : AV} (h : AtT H y N ty t) (X : List C3) : AtT (H ++ X) y N ty t := ⟨h.1, by rw [List.length_append]; have := h.2.1; omega, h.2.2.grow X⟩
theorem AtL.grow {H : Aa} {ys : List AV} {N : Nat} {ts : List Nat} {cs : List AV} (h : AtL H ys N ts cs) (X : List C3) : AtL (H ++ X) ys N ts cs := ⟨h.1, by rw [List.length_append]; have := h.2.1; omega, h.2.2.grow X⟩
theorem AtT.kept {H H' : Aa} {y : AV} {N ty M m : Nat} {t : AV} (h : AtT H y N ty t) (k : Rk H H' M m) (hd : N + Gp t ≤ M ∨ M + m ≤ N) : AtT H' y N ty t := ⟨h.1, Nat.le_trans h.2.1 k.1, h.2.2.kept k (by rw [Fp]; exact hd)⟩
theorem AtL.kept {H H' : Aa} {ys : List AV} {N M m : Nat} {ts : List Nat} {cs : List AV} (h : AtL H ys N ts cs) (k : Rk H H' M m) (hd : N + A8 cs ≤ M ∨ M + m ≤ N) : AtL H' ys N ts cs := ⟨h.1, Nat.le_trans h.2.1 k.1, h.2.2.kept k (by rw [Aw]; exact hd)⟩
theorem M4 {H H' : Aa} {i M m : Nat} {b : C3} (h : H[i]? = some b) (k : Rk H H' M m) (hd : i < M ∨ M + m ≤ i) : H'[i]? = some b := k.2 i b h hd
theorem AtL.cons {H : Aa} {ys : List AV} {N t : Nat} {ts : List Nat} {c : AV} {cs : List AV} (h : AtL H ys N (t :: ts) (c :: cs)) : ∃ y ys', ys = y :: ys' ∧ AtT H y N t c ∧ AtL H ys' (N + Gp c) ts cs := by
 obtain ⟨h1, h2, h3⟩ := h
 have h2 : N + (Gp c + A8 cs) ≤ H.length := h2
 have e : Ab Ad E0.tp N (t :: ts) (c :: cs) = ((Ag Ad E0.tp N t c).1 :: (Ab Ad E0.tp (N + Gp c) ts cs).1, (Ag Ad E0.tp N t c).2 ++ (Ab Ad E0.tp (N + Gp c) ts cs).2) := by
  rw [Ab, Fp]
  rfl
 rw [e] at h1 h3
 refine ⟨_, _, h1, ⟨rfl, by omega, h3.left⟩, ⟨rfl, by omega, ?_⟩⟩
 have := h3.right
 rwa [Fp] at this
theorem AtL.nil {H : Aa} {ys : List AV} {N : Nat} {ts : List Nat} (h : AtL H ys N ts []) : ys = [] := h.1
theorem AtT.sc {H : Aa} {y : AV} {N ty : Nat} {v : Value} (h : AtT H y N ty (.sc v)) : y = .sc v := h.1
theorem AtT.agg {H : Aa} {y : AV} {N ty : Nat} {cs : List AV} {cty : List Nat} (h : AtT H y N ty (.agg cs)) (hty : ∃ i, Ad ty = some i ∧ i.cty = cty) : ∃ ys, y = .agg ys ∧ AtL H ys N cty cs := by
 obtain ⟨i, hi, rfl⟩ := hty
 obtain ⟨h1, h2, h3⟩ := h
 rw [E7, hi, Option.getD_some] at h1 h3
 exact ⟨_, h1, rfl, h2, h3⟩
theorem AtT.vw {H : Aa} {y : AV} {N ty : Nat} {t : AV} (h : AtT H y N ty t) (hok : C2 Ad E0.tp 8 ty t) : Vw H y t := fun X => by
 rw [h.1]
 exact Iy 8 ty t N (Ge 8 ty t hok) (h.2.2.grow X)
theorem AtL.vw {H : Aa} {ys : List AV} {N : Nat} {ts : List Nat} {cs : List AV} (h : AtL H ys N ts cs) (hok : B7 (C2 Ad E0.tp 7) ts cs) : Vw H (.agg ys) (.agg cs) := fun X => by
 rw [h.1, Ff, Hb (fun ty t N => Iy 7 ty t N) cs ts N (Gb (Ge 7) hok) (h.2.2.grow X)]
 rfl
theorem AtL.leaf {H : Aa} {ys : List AV} {N : Nat} {ts : List Nat} {cs : List AV} (h : AtL H ys N ts cs) (hf : cs.all Dp = true) : ys.all Am = true := by
 rw [h.1]
 exact D4 _ _ _ hf
theorem AtL.len {H : Aa} {ys : List AV} {N : Nat} {ts : List Nat} {cs : List AV} (h : AtL H ys N ts cs) : ys.length = cs.length := by rw [h.1, Ct]
theorem Mh {d : Nat} (hd : ∀ ty x f k, C2 Ad E0.tp d ty x → C2 Ad E0.tp d ty (Ce f k x).1) : ∀ (cs : List AV) (ts : List Nat) (fs : List MF) (k : Int), B7 (C2 Ad E0.tp d) ts cs → B7 (C2 Ad E0.tp d) ts (Bg fs k cs).1
 | [], ts, fs, k, h => by simpa [Bg] using h
 | c :: cs, [], fs, k, h => h.elim
 | c :: cs, t :: ts, fs, k, h => ⟨hd _ _ _ _ h.1, Mh hd cs ts fs.tail _ h.2⟩
theorem Vg : ∀ (d ty : Nat) (x : AV) (f : MF) (k : Int), C2 Ad E0.tp d ty x → C2 Ad E0.tp d ty (Ce f k x).1
 | 0, _, _, _, _, h => h
 | d + 1, ty, x, f, k, h => by
  cases x with
  | sc v => cases f <;> trivial
  | ro n cells =>
   cases f with
   | sub fs =>
    obtain ⟨i, j, h1, h2, h3, h4⟩ := h
    exact ⟨i, j, h1, h2, by rw [Gn]; exact h3, Mh (Vg d) _ _ _ _ h4⟩
   | _ => exact h
  | _ => exact h
theorem Ny {cs : List AV} {ts : List Nat} (fs : List MF) (k : Int) (h : B7 (C2 Ad E0.tp 7) ts cs) : B7 (C2 Ad E0.tp 7) ts (Bg fs k cs).1 := Mh (Vg 7) cs ts fs k h
section steps
variable {β : Type} {n : Nat} {H : Aa} {r : Option β}
theorem Px {ty f : Nat} {args vs cs : List AV} {cty : List Nat} {K : KO β} (hh : Bl f = false) (hv : args.mapM (Au H 8) = some vs) (ht : Bp E0 n ty f vs = some (.agg cs)) (hty : ∃ i, Ad ty = some i ∧ i.cty = cty) (h : ∀ ys X N, N = H.length → AtL (H ++ X) ys N cty cs → K (.agg ys) (H ++ X) = r) : (PR n β).call ty (.fn f [] []) args H (fun x H => K x H) = r := by
 obtain ⟨i, hi, rfl⟩ := hty
 rw [Do hh hv ht, E7, hi, Option.getD_some]
 exact h _ _ _ rfl ⟨rfl, by rw [List.length_append, Aw]; exact Nat.le_refl _, Mz _ _⟩
theorem Py {w : Nat} {z ys : List AV} {K : KO β} (hz : z.length = w) (hy : ys.length = w) (hl : ys.all Am = true) (h : ∀ i, i = H.length → (H ++ [⟨ys, true, true⟩])[i]? = some ⟨ys, true, true⟩ → K (.ptr i 0) (H ++ [⟨ys, true, true⟩]) = r) :
  Mk z H (fun t H => Cb w t (.agg ys) H fun H => K t H) = r := by
 have hg : (H ++ [(⟨z, true, true⟩ : C3)])[H.length]? = some ⟨z, true, true⟩ := Kg H _ []
 have hc : Bv (.agg ys) = some ys := by
  show (if ys.all Am then some ys else none) = _
  rw [if_pos hl]
 show Cb w (.ptr H.length 0) (.agg ys) (H ++ [⟨z, true, true⟩]) _ = r
 rw [Vs w H.length 0 _ ⟨z, true, true⟩ ys _ _ hg hc hy (by rw [hz]; omega) rfl]
 have hs : B4 z 0 ys = ys := by
  unfold B4
  rw [List.take_zero, List.nil_append, List.drop_of_length_le (by rw [hz, hy]; omega), List.append_nil]
 simp only [hs, Vq]
 exact h _ rfl (Kg H _ [])
theorem Zv {N : Nat} {B : List C3} (h1 : N + B.length ≤ H.length) (h2 : Lies H N B) : ∃ A C : Aa, A.length = N ∧ H = A ++ (B ++ C) := by
 refine ⟨H.take N, H.drop (N + B.length), by rw [List.length_take]; omega, ?_⟩
 have e : (H.drop N).take B.length = B := by
  apply List.ext_getElem?
  intro j
  by_cases hj : j < B.length
  ·rw [List.getElem?_take_of_lt hj, List.getElem?_drop]
   have hb : B[j]? = some (B[j]) := List.getElem?_eq_getElem hj
   rw [hb, h2 j _ hb]
  ·rw [List.getElem?_eq_none (by rw [List.length_take]; omega), List.getElem?_eq_none (by omega)]
 conv => lhs; rw [← List.take_append_drop N H, ← List.take_append_drop B.length (H.drop N), e, List.drop_drop]
theorem Xt {A B B' C X : Aa} (hl : B'.length = B.length) : Rk (A ++ (B ++ C)) (A ++ (B' ++ (C ++ X))) A.length B.length := by
 refine ⟨by simp only [List.length_append, hl]; omega, fun i b h hd => ?_⟩
 rcases hd with hd | hd
 ·rw [List.getElem?_append_left hd] at h ⊢
  exact h
 ·rw [List.getElem?_append_right (by omega), List.getElem?_append_right (by omega)] at h ⊢
  rw [hl, List.getElem?_append_left (List.getElem?_eq_some_iff.1 h).1]
  exact h
theorem U6 {tI g N : Nat} {cty : List Nat} {fs : List MF} {cs ys : List AV} {k : Int} {K : KO β} (hmk : Le n g cty fs) (hv : fs.all V5 = true) (ha : AtL H ys N cty cs) (hw : Eu fs cs) (h0 : 0 ≤ k) (hb : k + A5 fs cs ≤ 4611686018427387904)
  (h : ∀ H', AtL H' ys N cty (Bg fs k cs).1 → Rk H H' N (A8 cs) → K (.sc (.int .i64 (k + A5 fs cs))) H' = r) : (PR n β).call tI (.fn g [] []) [.agg ys, .sc (.int .i64 k)] H (fun x H => K x H) = r := by
 obtain ⟨rfl, h2, h3⟩ := ha
 have hnb : ∀ M, (Ab Ad E0.tp M cty cs).2.length = A8 cs := fun M => Aw _ _ _
 obtain ⟨A, C, rfl, rfl⟩ := Zv (by rw [hnb]; exact h2) h3
 rw [Qh hmk.1 hmk.2.1]
 refine hmk.2.2 cs k β A C _ r hw h0 hb fun X => ?_
 rw [Ej]
 have hl : (Ab Ad E0.tp A.length cty (Bg fs k cs).1).2.length = (Ab Ad E0.tp A.length cty cs).2.length := by rw [Aw, Aw, F9]
 refine h _ ⟨(Kp cs fs k A.length cty hv hw).symm, ?_, ?_⟩ ?_
 ·rw [F9]
  simp only [List.length_append, Aw, F9]
  omega
 ·have := Qg A (Ab Ad E0.tp A.length cty (Bg fs k cs).1).2 (C ++ X)
  rwa [List.append_assoc] at this
 ·rw [← hnb A.length]
  exact Xt hl
theorem Nx {tI g : Nat} {fs : List MF} {cs : List AV} {y : AV} {k : Int} {K : KO β} (hhe : Ld n g fs) (hv : Vw H y (.agg (Bg fs k cs).1)) (hw : Eu fs cs) (h0 : 0 ≤ k) (hb : k + A5 fs cs ≤ 4611686018427387904)
  {F : Aa → Option β} (h : K (.sc (.int .i64 (k + A5 fs cs))) H = r) : (PR n β).call tI (.fn g [] []) [y, .sc (.int .i64 k)] H (fun t H => An .lss t (.sc (.int .i64 0)) fun t' => A7 t' (F H) (K t H)) = r := by
 refine Y9 hhe.1 (El hv (El (I1 _ _) Qe)) (hhe.2 tI cs k hw h0 hb) ?_
 rw [Ej, Q6, Bi, if_neg (by simp; omega)]
 exact h
theorem U8 {b : Bool} {K : AV → Option β} (h : K (.sc (.bool (!b))) = r) : Vk .not (.sc (.bool b)) (fun t => K t) = r := h
theorem Q5 {A K : Option β} (h : K = r) : A7 (.sc (.bool false)) A K = r := h
theorem Y8 {ty f : Nat} {args vs : List AV} {K : KO β} (hh : Bl f = false) (hv : args.mapM (Au H 8) = some vs) (ht : Bp E0 n ty f vs = some (.sc (.bool true))) (h : K (.sc (.bool true)) H = r) : (PR n β).call ty (.fn f [] []) args H (fun t H => K t H) = r := Y9 hh hv ht h
theorem U7 {z : Int} {K : AV → Option β} (h : K (.sc (.bool false)) = r) : An .neq (.sc (.int .i64 z)) (.sc (.int .i64 z)) (fun t => K t) = r := by
 rw [Za, bne_self_eq_false]
 exact h
end steps
end
end Go.Proofs.YtjiahcekpohehaaGreatDoor.Abs
set_option maxRecDepth 100000
namespace Go.Proofs.YtjiahcekpohehaaGreatDoor.Abs
section
open Go
variable {α : Type}
theorem Mu : ∀ (cs : List AV) (fs : List MF), Eu fs cs → fs.all V5 = true → cs.all Dp = true
 | [], fs, _, _ => rfl
 | c :: cs, [], hw, _ => absurd rfl hw.1
 | c :: cs, f :: fs, hw, hv => by
  obtain ⟨h1, h2⟩ := wfL_cons.1 hw
  rw [List.all_cons, Bool.and_eq_true] at hv
  rw [List.all_cons, Mu cs fs h2 hv.2, Bool.and_true]
  cases c with
  | sc v => cases f <;> first | exact h1 | (exfalso; simpa [V5] using hv.1) | exact h1.elim
  | ro m cells => cases f <;> first | rfl | exact h1.elim
  | _ => exact h1.elim
theorem Al {f : MF} {fs : List MF} {c : AV} {cs : List AV} {a b : Nat} (h1 : Bc f c = a) (h2 : A5 fs cs = b) : A5 (f :: fs) (c :: cs) = a + b := by
 subst h1
 subst h2
 rfl
theorem Ep (n : Nat) (hn : 1048576 < n) : Hd (n + 1) 9 216 := Aaw (n := n) rfl hn (fun kk => Hw (PR n AV) n kk) (fun kk m k s H => rfl) (fun a H kk => W5 n a H kk)
def fdByteS : List FD := [⟨.byt, [], 0⟩]
def Ar : List MF := fdByteS.map FD.f
theorem E8 (n : Nat) (hn : 1048576 < n) : Fi (n + 2) 100 31 Ar :=
 H7 (n := n + 1) (tI := 3) (w := 1) (cty := [5]) (fds := fdByteS) rfl rfl (Ep n hn) ⟨rfl, trivial, trivial⟩ rfl ⟨_, _, rfl, rfl, rfl, rfl⟩ (by omega) (fun β kk => Hl (PR (n + 1) β) (n + 1) kk) (fun β kk m a k i H => rfl) (fun β a b H kk => Wl (n + 1) a b H kk)
theorem E6 (n : Nat) (hn : 1048576 < n) : F2 (n + 2) 105 Ar :=
 Hy (n := n + 1) (tI := 3) (w := 1) (fds := fdByteS) rfl (Ep n hn) ⟨rfl, trivial, trivial⟩ rfl (by decide) (by omega) (fun kk => Ho (PR (n + 1) AV) (n + 1) kk) (fun kk m a k i H => rfl) (fun a b H kk => Wo (n + 1) a b H kk)
def fdIntS : List FD := [⟨.int, [], 0⟩]
def Fs : List MF := fdIntS.map FD.f
theorem Xz (n : Nat) (hn : 1048576 < n) : Fi (n + 2) 39 34 Fs :=
 H7 (n := n + 1) (tI := 3) (w := 1) (cty := [3]) (fds := fdIntS) rfl rfl (Ep n hn) ⟨rfl, trivial, trivial⟩ rfl ⟨_, _, rfl, rfl, rfl, rfl⟩ (by omega) (fun β kk => J6 (PR (n + 1) β) (n + 1) kk) (fun β kk m a k i H => rfl) (fun β a b H kk => Z0 (n + 1) a b H kk)
theorem Xl (n : Nat) (hn : 1048576 < n) : F2 (n + 2) 40 Fs :=
 Hy (n := n + 1) (tI := 3) (w := 1) (fds := fdIntS) rfl (Ep n hn) ⟨rfl, trivial, trivial⟩ rfl (by decide) (by omega) (fun kk => J7 (PR (n + 1) AV) (n + 1) kk) (fun kk m a k i H => rfl) (fun a b H kk => Z1 (n + 1) a b H kk)
def fdStringS : List FD := [⟨.str, [], 0⟩]
def Cf : List MF := fdStringS.map FD.f
theorem P2 (n : Nat) (hn : 1048576 < n) : Fi (n + 2) 102 33 Cf :=
 H7 (n := n + 1) (tI := 3) (w := 1) (cty := [9]) (fds := fdStringS) rfl rfl (Ep n hn) ⟨rfl, trivial, trivial⟩ rfl ⟨_, _, rfl, rfl, rfl, rfl⟩ (by omega) (fun β kk => Hn (PR (n + 1) β) (n + 1) kk) (fun β kk m a k i H => rfl) (fun β a b H kk => Wn (n + 1) a b H kk)
theorem Po (n : Nat) (hn : 1048576 < n) : F2 (n + 2) 107 Cf :=
 Hy (n := n + 1) (tI := 3) (w := 1) (fds := fdStringS) rfl (Ep n hn) ⟨rfl, trivial, trivial⟩ rfl (by decide) (by omega) (fun kk => Hq (PR (n + 1) AV) (n + 1) kk) (fun kk m a k i H => rfl) (fun a b H kk => Wq (n + 1) a b H kk)
theorem Fg (s : ByteArray) (h : s.size ≤ 1048576) : Yl (.sub Ar) (As s) := by
 refine ⟨h, by rw [I4]; show _ = s.size * 1; omega, ?_⟩
 have key : ∀ l : List UInt8, Eu (Cn l.length Ar) (l.map fun b => .sc (.int .u8 b.toNat)) := by
  intro l
  induction l with
  | nil => rfl
  | cons b l ih =>
   rw [List.length_cons, Cu, List.map_cons]
   exact wfL_cons.2 ⟨trivial, ih⟩
 have := key s.data.toList
 rwa [show s.data.toList.length = s.size by simp] at this
theorem Hi (f : MF) (e : α → Value) (h : ∀ x, Bc f (.sc (e x)) = 1) : ∀ l : List α, A5 (Cn l.length [f]) (l.map fun x => .sc (e x)) = l.length
 | [] => rfl
 | x :: l => by
  rw [List.length_cons, Cu, List.map_cons]
  show Bc f (.sc (e x)) + A5 (Cn l.length [f]) _ = _
  rw [h, Hi f e h l]
  omega
theorem Du (s : ByteArray) : Bc (.sub Ar) (As s) = s.size := by
 have := Hi .byt (fun b : UInt8 => .int .u8 b.toNat) (fun _ => rfl) s.data.toList
 rw [show s.data.toList.length = s.size by simp] at this
 exact this
theorem Ym (l : List Int) (h : l.length ≤ 1048576) : Yl (.sub Fs) (H3 l) := by
 refine ⟨h, by simp [Fs, fdIntS], ?_⟩
 clear h
 induction l with
 | nil => rfl
 | cons b l ih =>
  rw [List.length_cons, Cu, List.map_cons]
  exact wfL_cons.2 ⟨trivial, ih⟩
theorem Tp (l : List Int) : Bc (.sub Fs) (H3 l) = l.length := Hi .int (fun z : Int => .int .i64 z) (fun _ => rfl) l
theorem Yn (l : List ByteArray) (h : l.length ≤ 1048576) : Yl (.sub Cf) (Ik l) := by
 refine ⟨h, by simp [Cf, fdStringS], ?_⟩
 clear h
 induction l with
 | nil => rfl
 | cons b l ih =>
  rw [List.length_cons, Cu, List.map_cons]
  exact wfL_cons.2 ⟨trivial, ih⟩
theorem Tq (l : List ByteArray) : Bc (.sub Cf) (Ik l) = l.length := Hi .str (fun z : ByteArray => .string z) (fun _ => rfl) l
theorem AaU {wt : α → Nat} (sm : α → Prop) (hs : ∀ x, wt x ≤ 1048576 → sm x) (l : List α) (h : Td wt l ≤ 1048576) : l.length ≤ 1048576 ∧ ∀ y ∈ l, sm y := by
 have h1 := Fx wt l
 refine ⟨by omega, fun y hy => hs y ?_⟩
 have h2 := Ju (wt := wt) hy
 omega
theorem Ri {enc : α → List AV} {fs : List MF} (l : List α) (h : l.length ≤ 1048576) (hw : ∀ x ∈ l, Eu fs (enc x)) : Yl (.sub fs) (C0 enc l) := by
 have key : ∀ l : List α, (∀ x ∈ l, Eu fs (enc x)) → (l.map enc).flatten.length = l.length * fs.length ∧ Eu (Cn l.length fs) (l.map enc).flatten := by
  intro l
  induction l with
  | nil => intro _; exact ⟨by simp, rfl⟩
  | cons x l ih =>
   intro hw
   obtain ⟨h1, h2⟩ := ih fun y hy => hw y (List.mem_cons_of_mem _ hy)
   have hx := hw x List.mem_cons_self
   have hl := Em hx
   rw [List.map_cons, List.flatten_cons, List.length_cons, Cu]
   exact ⟨by rw [List.length_append, h1, ← hl, Nat.succ_mul]; omega, (C8 hl).2 ⟨hx, h2⟩⟩
 obtain ⟨h1, h2⟩ := key l hw
 exact ⟨h, h1, h2⟩
theorem J2 {enc : α → List AV} {fs : List MF} {wt : α → Nat} : ∀ (l : List α), (∀ x ∈ l, fs.length = (enc x).length) → (∀ x ∈ l, A5 fs (enc x) ≤ 64 * (1 + wt x)) → Bc (.sub fs) (C0 enc l) ≤ 64 * Td wt l
 | [], _, _ => Nat.zero_le _
 | x :: l, hl, h => by
  have ih := J2 l (fun y hy => hl y (List.mem_cons_of_mem _ hy)) (fun y hy => h y (List.mem_cons_of_mem _ hy))
  have hx := h x List.mem_cons_self
  show A5 (Cn (l.length + 1) fs) (enc x ++ (l.map enc).flatten) ≤ _
  rw [Cu, Cs _ _ _ _ (hl x List.mem_cons_self), Td]
  have ih : A5 (Cn l.length fs) (l.map enc).flatten ≤ 64 * Td wt l := ih
  omega
def Q1 : List FV := [.skip, .sub Ar [1] 100, .skip, .skip]
def AaI : List FV := [.skip, .sub Ar [1] 105, .skip, .skip]
def Q8 : List MF := Ai Q1
theorem Aag : ∀ (cs : List AV) (N : Nat), Eu Q8 cs → (Ab Ad E0.tp N L6 cs).1.all Am = true := fun cs N h => D4 _ _ _ (Mu cs Q8 h rfl)
theorem X0 (n : Nat) (hn : 1048576 < n) : Le (n + 3) 161 L6 Q8 :=
 Kn (n := n + 2) (tI := 3) (fvs := Q1) rfl rfl ⟨rfl, E8 (n + 0) (by omega), trivial⟩ rfl Aag (fun β a b H kk => Wz (n + 2) a b H kk)
theorem Xm (n : Nat) (hn : 1048576 < n) : Ld (n + 3) 164 Q8 :=
 Kh (n := n + 2) (tI := 3) (fvs := AaI) rfl ⟨rfl, E6 (n + 0) (by omega), trivial⟩ rfl (fun a b H kk => W2 (n + 2) a b H kk)
def fdWantS : List FD := [⟨.str, [0], 0⟩, ⟨.int, [1], 0⟩]
def Xh : List FD := [⟨.str, [0], 0⟩, ⟨.int, [1], 0⟩]
def Dq : List MF := fdWantS.map FD.f
def Mp (x : Ew) : Prop := True
theorem Vd (n : Nat) (hn : 1048576 < n) : Fi (n + 2) 101 32 Dq :=
 H7 (n := n + 1) (tI := 3) (w := 2) (cty := L7) (fds := fdWantS) rfl rfl (Ep (n + 0) (by omega)) ⟨rfl, trivial, ⟨rfl, trivial, trivial⟩⟩ rfl ⟨_, _, rfl, rfl, rfl, rfl⟩ (by omega) (fun β kk => Hm (PR (n + 1) β) (n + 1) kk) (fun β kk m a k i H => rfl) (fun β a b H kk => Wm (n + 1) a b H kk)
theorem Uw (n : Nat) (hn : 1048576 < n) : F2 (n + 2) 106 Dq :=
 Hy (n := n + 1) (tI := 3) (w := 2) (fds := Xh) rfl (Ep (n + 0) (by omega)) ⟨rfl, trivial, ⟨rfl, trivial, trivial⟩⟩ rfl (by decide) (by omega) (fun kk => Hp (PR (n + 1) AV) (n + 1) kk) (fun kk m a k i H => rfl) (fun a b H kk => Wp (n + 1) a b H kk)
theorem Yj (x : Ew) (h : Eb x ≤ 1048576) : Mp x := by
 have h0 := h
 unfold Eb at h0
 exact trivial
theorem Aay (x : Ew) (h : Mp x) : Eu Dq (Bw x) := by
 exact wfL_cons.2 ⟨trivial, wfL_cons.2 ⟨trivial, rfl⟩⟩
theorem Wh (x : Ew) : A5 Dq (Bw x) ≤ 64 * (1 + Eb x) := by
 show 1 + (1 + 0) ≤ _
 unfold Eb
 omega
def fdPacketS : List FD := [⟨.int, [0], 0⟩, ⟨.bool, [1], 0⟩, ⟨.int, [2], 0⟩, ⟨.bool, [3], 0⟩, ⟨.int, [4], 0⟩, ⟨.str, [5], 0⟩, ⟨.sub Ar, [6], 100⟩, ⟨.str, [7], 0⟩, ⟨.int, [8], 0⟩, ⟨.bool, [9], 0⟩, ⟨.int, [10], 0⟩, ⟨.bool, [11], 0⟩, ⟨.str, [12], 0⟩, ⟨.sub Ar, [13], 100⟩, ⟨.int, [14], 0⟩, ⟨.bool, [15], 0⟩, ⟨.bool, [16], 0⟩, ⟨.str, [17], 0⟩, ⟨.bool, [18], 0⟩, ⟨.sub Ar, [19], 100⟩, ⟨.int, [20], 0⟩, ⟨.bool, [21], 0⟩, ⟨.sub Dq, [22], 101⟩, ⟨.sub Cf, [23], 102⟩, ⟨.sub Fs, [24], 39⟩]
def Ss : List FD := [⟨.int, [0], 0⟩, ⟨.bool, [1], 0⟩, ⟨.int, [2], 0⟩, ⟨.bool, [3], 0⟩, ⟨.int, [4], 0⟩, ⟨.str, [5], 0⟩, ⟨.sub Ar, [6], 105⟩, ⟨.str, [7], 0⟩, ⟨.int, [8], 0⟩, ⟨.bool, [9], 0⟩, ⟨.int, [10], 0⟩, ⟨.bool, [11], 0⟩, ⟨.str, [12], 0⟩, ⟨.sub Ar, [13], 105⟩, ⟨.int, [14], 0⟩, ⟨.bool, [15], 0⟩, ⟨.bool, [16], 0⟩, ⟨.str, [17], 0⟩, ⟨.bool, [18], 0⟩, ⟨.sub Ar, [19], 105⟩, ⟨.int, [20], 0⟩, ⟨.bool, [21], 0⟩, ⟨.sub Dq, [22], 106⟩, ⟨.sub Cf, [23], 107⟩, ⟨.sub Fs, [24], 40⟩]
def B2 : List MF := fdPacketS.map FD.f
def Ii (x : B6) : Prop := x.fBody.size ≤ 1048576 ∧ x.fWBody.size ≤ 1048576 ∧ x.fPass.size ≤ 1048576 ∧ (x.fWants.length ≤ 1048576 ∧ ∀ y ∈ x.fWants, Mp y) ∧ x.fNames.length ≤ 1048576 ∧ x.fCodes.length ≤ 1048576 ∧ True
theorem P1 (n : Nat) (hn : 1048576 < n) : Fi (n + 3) 160 93 B2 :=
 H7 (n := n + 2) (tI := 3) (w := 25) (cty := Gi) (fds := fdPacketS) rfl rfl (Ep (n + 1) (by omega)) ⟨rfl, trivial, ⟨rfl, trivial, ⟨rfl, trivial, ⟨rfl, trivial, ⟨rfl, trivial, ⟨rfl, trivial, ⟨rfl, E8 (n + 0) (by omega), ⟨rfl, trivial, ⟨rfl, trivial, ⟨rfl, trivial, ⟨rfl, trivial, ⟨rfl, trivial, ⟨rfl, trivial, ⟨rfl, E8 (n + 0) (by omega), ⟨rfl, trivial, ⟨rfl, trivial, ⟨rfl, trivial, ⟨rfl, trivial, ⟨rfl, trivial, ⟨rfl, E8 (n + 0) (by omega), ⟨rfl, trivial, ⟨rfl, trivial, ⟨rfl, Vd (n + 0) (by omega), ⟨rfl, P2 (n + 0) (by omega), ⟨rfl, Xz (n + 0) (by omega), trivial⟩⟩⟩⟩⟩⟩⟩⟩⟩⟩⟩⟩⟩⟩⟩⟩⟩⟩⟩⟩⟩⟩⟩⟩⟩ rfl ⟨_, _, rfl, rfl, rfl, rfl⟩ (by omega) (fun β kk => Hu (PR (n + 2) β) (n + 2) kk) (fun β kk m a k i H => rfl) (fun β a b H kk => Wy (n + 2) a b H kk)
theorem Pn (n : Nat) (hn : 1048576 < n) : F2 (n + 3) 163 B2 :=
 Hy (n := n + 2) (tI := 3) (w := 25) (fds := Ss) rfl (Ep (n + 1) (by omega)) ⟨rfl, trivial, ⟨rfl, trivial, ⟨rfl, trivial, ⟨rfl, trivial, ⟨rfl, trivial, ⟨rfl, trivial, ⟨rfl, E6 (n + 0) (by omega), ⟨rfl, trivial, ⟨rfl, trivial, ⟨rfl, trivial, ⟨rfl, trivial, ⟨rfl, trivial, ⟨rfl, trivial, ⟨rfl, E6 (n + 0) (by omega), ⟨rfl, trivial, ⟨rfl, trivial, ⟨rfl, trivial, ⟨rfl, trivial, ⟨rfl, trivial, ⟨rfl, E6 (n + 0) (by omega), ⟨rfl, trivial, ⟨rfl, trivial, ⟨rfl, Uw (n + 0) (by omega), ⟨rfl, Po (n + 0) (by omega), ⟨rfl, Xl (n + 0) (by omega), trivial⟩⟩⟩⟩⟩⟩⟩⟩⟩⟩⟩⟩⟩⟩⟩⟩⟩⟩⟩⟩⟩⟩⟩⟩⟩ rfl (by decide) (by omega) (fun kk => Hv (PR (n + 2) AV) (n + 2) kk) (fun kk m a k i H => rfl) (fun a b H kk => W1 (n + 2) a b H kk)
theorem S6 (x : B6) (h : Ba x ≤ 1048576) : Ii x := by
 have e3 := Fx Eb x.fWants
 have e4 := Fx ByteArray.size x.fNames
 have h0 := h
 unfold Ba at h0
 exact ⟨by omega, by omega, by omega, AaU Mp Yj _ (by omega), by omega, by omega, trivial⟩
theorem V3 (x : B6) (h : Ii x) : Eu B2 (Ap x) := by
 obtain ⟨h0, h1, h2, h3, h4, h5, _⟩ := h
 exact wfL_cons.2 ⟨trivial, wfL_cons.2 ⟨trivial, wfL_cons.2 ⟨trivial, wfL_cons.2 ⟨trivial, wfL_cons.2 ⟨trivial, wfL_cons.2 ⟨trivial, wfL_cons.2 ⟨Fg _ h0, wfL_cons.2 ⟨trivial, wfL_cons.2 ⟨trivial, wfL_cons.2 ⟨trivial, wfL_cons.2 ⟨trivial, wfL_cons.2 ⟨trivial, wfL_cons.2 ⟨trivial, wfL_cons.2 ⟨Fg _ h1, wfL_cons.2 ⟨trivial, wfL_cons.2 ⟨trivial, wfL_cons.2 ⟨trivial, wfL_cons.2 ⟨trivial, wfL_cons.2 ⟨trivial, wfL_cons.2 ⟨Fg _ h2, wfL_cons.2 ⟨trivial, wfL_cons.2 ⟨trivial, wfL_cons.2 ⟨Ri _ h3.1 fun y hy => Aay y (h3.2 y hy), wfL_cons.2 ⟨Yn _ h4, wfL_cons.2 ⟨Ym _ h5, rfl⟩⟩⟩⟩⟩⟩⟩⟩⟩⟩⟩⟩⟩⟩⟩⟩⟩⟩⟩⟩⟩⟩⟩⟩⟩
theorem Rr (x : B6) : A5 B2 (Ap x) ≤ 64 * (1 + Ba x) := by
 have c0 := Du x.fBody
 have c1 := Du x.fWBody
 have c2 := Du x.fPass
 have c3 := J2 (fs := Dq) (wt := Eb) x.fWants (fun y _ => rfl) (fun y _ => Wh y)
 have c4 := Tq x.fNames
 have c5 := Tp x.fCodes
 have e4 := Fx ByteArray.size x.fNames
 obtain ⟨u, hu⟩ : ∃ u : Nat, u = 1 := ⟨_, rfl⟩
 have cE : A5 B2 (Ap x) = u + (u + (u + (u + (u + (u + (Bc (.sub Ar) (As x.fBody) + (u + (u + (u + (u + (u + (u + (Bc (.sub Ar) (As x.fWBody) + (u + (u + (u + (u + (u + (Bc (.sub Ar) (As x.fPass) + (u + (u + (Bc (.sub Dq) (C0 Bw x.fWants) + (Bc (.sub Cf) (Ik x.fNames) + (Bc (.sub Fs) (H3 x.fCodes) + 0)))))))))))))))))))))))) := by
  subst hu
  exact Al rfl (Al rfl (Al rfl (Al rfl (Al rfl (Al rfl (Al rfl (Al rfl (Al rfl (Al rfl (Al rfl (Al rfl (Al rfl (Al rfl (Al rfl (Al rfl (Al rfl (Al rfl (Al rfl (Al rfl (Al rfl (Al rfl (Al rfl (Al rfl (Al rfl (rfl)))))))))))))))))))))))))
 rw [cE]
 clear cE
 generalize Bc (.sub Ar) (As x.fBody) = a0 at c0 ⊢
 generalize Bc (.sub Ar) (As x.fWBody) = a1 at c1 ⊢
 generalize Bc (.sub Ar) (As x.fPass) = a2 at c2 ⊢
 generalize Bc (.sub Dq) (C0 Bw x.fWants) = a3 at c3 ⊢
 generalize Bc (.sub Cf) (Ik x.fNames) = a4 at c4 ⊢
 generalize Bc (.sub Fs) (H3 x.fCodes) = a5 at c5 ⊢
 unfold Ba
 simp only [← Nat.add_assoc, Nat.add_zero, Nat.mul_add]
 omega
def Q0 : List FV := [.sub Ar [0] 100, .skip]
def AaH : List FV := [.sub Ar [0] 105, .skip]
def Q7 : List MF := Ai Q0
theorem Aaf : ∀ (cs : List AV) (N : Nat), Eu Q7 cs → (Ab Ad E0.tp N L5 cs).1.all Am = true := fun cs N h => D4 _ _ _ (Mu cs Q7 h rfl)
theorem Xy (n : Nat) (hn : 1048576 < n) : Le (n + 3) 159 L5 Q7 :=
 Kn (n := n + 2) (tI := 3) (fvs := Q0) rfl rfl ⟨rfl, E8 (n + 0) (by omega), trivial⟩ rfl Aaf (fun β a b H kk => Wx (n + 2) a b H kk)
theorem Xk (n : Nat) (hn : 1048576 < n) : Ld (n + 3) 162 Q7 :=
 Kh (n := n + 2) (tI := 3) (fvs := AaH) rfl ⟨rfl, E6 (n + 0) (by omega), trivial⟩ rfl (fun a b H kk => W0 (n + 2) a b H kk)
def P7 (x : Df) : Prop := x.fB.fHeld.size ≤ 1048576 ∧ (x.fPend.length ≤ 1048576 ∧ ∀ y ∈ x.fPend, Ii y) ∧ x.fW.fBody.size ≤ 1048576 ∧ x.fOut.size ≤ 1048576 ∧ True
theorem Yi (x : Df) (h : Ea x ≤ 1048576) : P7 x := by
 have e1 := Fx Ba x.fPend
 have h0 := h
 unfold Ea Oj Ok at h0
 exact ⟨by omega, AaU Ii S6 _ (by omega), by omega, by omega, trivial⟩
def Uu : List FV := [.skip, .skip, .agg (Ai Q0) [2] 2 159, .sub B2 [4] 160, .skip, .skip, .skip, .skip, .skip, .agg (Ai Q1) [10] 4 161, .skip, .sub Ar [15] 100]
def Aab : List FV := [.skip, .skip, .agg (Ai Q0) [2] 2 162, .sub B2 [4] 163, .skip, .skip, .skip, .skip, .skip, .agg (Ai Q1) [10] 4 164, .skip, .sub Ar [15] 105]
def G9 : List MF := Ai Uu
theorem Mt (x : Df) (h : P7 x) : Eu G9 (A3 x) := by
 obtain ⟨h0, h1, h2, h3, _⟩ := h
 exact wfL_cons.2 ⟨rfl, wfL_cons.2 ⟨rfl, wfL_cons.2 ⟨Fg _ h0, wfL_cons.2 ⟨rfl, wfL_cons.2 ⟨Ri _ h1.1 fun y hy => V3 y (h1.2 y hy), wfL_cons.2 ⟨rfl, wfL_cons.2 ⟨rfl, wfL_cons.2 ⟨rfl, wfL_cons.2 ⟨rfl, wfL_cons.2 ⟨rfl, wfL_cons.2 ⟨rfl, wfL_cons.2 ⟨Fg _ h2, wfL_cons.2 ⟨rfl, wfL_cons.2 ⟨rfl, wfL_cons.2 ⟨rfl, wfL_cons.2 ⟨Fg _ h3, rfl⟩⟩⟩⟩⟩⟩⟩⟩⟩⟩⟩⟩⟩⟩⟩⟩
theorem Tr (x : Df) : A5 G9 (A3 x) ≤ 64 * Ea x := by
 have c0 := Du x.fB.fHeld
 have c1 := J2 (fs := B2) (wt := Ba) x.fPend (fun y _ => rfl) (fun y _ => Rr y)
 have c2 := Du x.fW.fBody
 have c3 := Du x.fOut
 obtain ⟨u, hu⟩ : ∃ u : Nat, u = 0 := ⟨_, rfl⟩
 have cE : A5 G9 (A3 x) = u + (u + (Bc (.sub Ar) (As x.fB.fHeld) + (u + (Bc (.sub B2) (C0 Ap x.fPend) + (u + (u + (u + (u + (u + (u + (Bc (.sub Ar) (As x.fW.fBody) + (u + (u + (u + (Bc (.sub Ar) (As x.fOut) + 0))))))))))))))) := by
  subst hu
  exact Al rfl (Al rfl (Al rfl (Al rfl (Al rfl (Al rfl (Al rfl (Al rfl (Al rfl (Al rfl (Al rfl (Al rfl (Al rfl (Al rfl (Al rfl (Al rfl (rfl))))))))))))))))
 rw [cE]
 clear cE
 generalize Bc (.sub Ar) (As x.fB.fHeld) = a0 at c0 ⊢
 generalize Bc (.sub B2) (C0 Ap x.fPend) = a1 at c1 ⊢
 generalize Bc (.sub Ar) (As x.fW.fBody) = a2 at c2 ⊢
 generalize Bc (.sub Ar) (As x.fOut) = a3 at c3 ⊢
 unfold Ea Oj Ok
 simp only [← Nat.add_assoc, Nat.add_zero, Nat.mul_add]
 omega
theorem Xw : ∀ (cs : List AV) (N : Nat), Eu G9 cs → (Ab Ad E0.tp N Jo cs).1.all Am = true := fun cs N h => D4 _ _ _ (Mu cs G9 h rfl)
theorem Vc (n : Nat) (hn : 1048576 < n) : Le (n + 4) 49 Jo G9 :=
 Kn (n := n + 3) (tI := 3) (fvs := Uu) rfl rfl ⟨rfl, rfl, by decide, rfl, Xy (n + 0) (by omega), by decide, ⟨rfl, P1 (n + 0) (by omega), ⟨rfl, rfl, by decide, rfl, X0 (n + 0) (by omega), by decide, ⟨rfl, E8 (n + 1) (by omega), trivial⟩⟩⟩⟩ rfl Xw (fun β a b H kk => Z5 (n + 3) a b H kk)
theorem Nu (n : Nat) (hn : 1048576 < n) : Ld (n + 4) 50 G9 :=
 Kh (n := n + 3) (tI := 3) (fvs := Aab) rfl ⟨rfl, rfl, by decide, Xk (n + 0) (by omega), ⟨rfl, Pn (n + 0) (by omega), ⟨rfl, rfl, by decide, Xm (n + 0) (by omega), ⟨rfl, E6 (n + 1) (by omega), trivial⟩⟩⟩⟩ rfl (fun a b H kk => Z6 (n + 3) a b H kk)
end
end Go.Proofs.YtjiahcekpohehaaGreatDoor.Abs
set_option maxHeartbeats 1600000
namespace Go.Proofs.YtjiahcekpohehaaGreatDoor.Abs
section
open Go
def pkt0 : B6 := ⟨0, false, 0, false, 0, ⟨#[]⟩, ⟨#[]⟩, ⟨#[]⟩, 0, false, 0, false, ⟨#[]⟩, ⟨#[]⟩, 0, false, false, ⟨#[]⟩, false, ⟨#[]⟩, 0, false, [], [], []⟩
def msgZ : Om := ⟨⟨#[]⟩, ⟨#[]⟩, 0, false⟩
def zc (g l : Int) : Df := ⟨true, g, ⟨⟨#[]⟩, false⟩, [], false, ⟨#[]⟩, 0, l, false, msgZ, false, ⟨#[]⟩⟩
def Nc : Df := ⟨false, 0, ⟨⟨#[]⟩, false⟩, [], false, ⟨#[]⟩, 0, 0, false, msgZ, false, ⟨#[]⟩⟩
def Lc (g l : Int) : Bool := decide (1 ≤ g) && decide (0 ≤ l)
def Ah (g l : Int) : Df := if Lc g l then zc g l else Nc
theorem Sx (n : Nat) (hn : 1048576 < n)  : Bp E0 (n + 2) 289 280 [As (⟨#[]⟩ : ByteArray)] = some (.tup [.agg (Ap pkt0), .sc (.int .i64 0), .sc (.int .i64 1)]) := by
 rw [Ax, W9, f280]
 refine De (G := (· = some (.tup [.agg (Ap pkt0), .sc (.int .i64 0), .sc (.int .i64 1)]))) ?_
 try simp only [G5, Bj, Dy, Ch, Dg, Bu, Cm, Da, F3, Lu, Th, Jm, Zh, Jl]
 have s0 : Sep [] [] := Dc
 refine Kf s0 fun i1 H s2 => ?_
 refine I9 ?_
 refine I8 ?_
 refine Nq rfl ?_
 refine Io (cs := [.sc (.int .i64 0), .sc (.bool false), .sc (.int .i64 0), .sc (.bool false), .sc (.int .i64 0), .sc (.string (⟨#[]⟩)), .nl, .sc (.string (⟨#[]⟩)), .sc (.int .i64 0), .sc (.bool false), .sc (.int .i64 0), .sc (.bool false), .sc (.string (⟨#[]⟩)), .nl, .sc (.int .i64 0), .sc (.bool false), .sc (.bool false), .sc (.string (⟨#[]⟩)), .sc (.bool false), .nl, .sc (.int .i64 0), .sc (.bool false), .nl, .nl, .nl]) rfl ?_
 refine Nt (cs' := [.sc (.int .i64 0), .sc (.bool false), .sc (.int .i64 0), .sc (.bool false), .sc (.int .i64 0), .sc (.string (⟨#[]⟩)), .nl, .sc (.string (⟨#[]⟩)), .sc (.int .i64 0), .sc (.bool false), .sc (.int .i64 0), .sc (.bool false), .sc (.string (⟨#[]⟩)), .nl, .sc (.int .i64 0), .sc (.bool false), .sc (.bool false), .sc (.string (⟨#[]⟩)), .sc (.bool false), .nl, .sc (.int .i64 0), .sc (.bool false), .nl, .nl, .nl]) s2 (.here) (Cr (Af rfl (Af rfl (Af rfl (Af rfl (Af rfl (Af rfl (Af rfl (Af rfl (Af rfl (Af rfl (Af rfl (Af rfl (Af rfl (Af rfl (Af rfl (Af rfl (Af rfl (Af rfl (Af rfl (Af rfl (Af rfl (Af rfl (Af rfl (Af rfl (Af rfl rfl)))))))))))))))))))))))))) rfl (Rj rfl) rfl fun H s3 => ?_
 refine Gw s3 (.here) rfl ?_
 refine Dn (Ye s3 rfl (.agg ⟨_, rfl, rfl⟩ (.sc (.sc (.sc (.sc (.sc (.sc (.nl (.sc (.sc (.sc (.sc (.sc (.sc (.nl (.sc (.sc (.sc (.sc (.sc (.nl (.sc (.sc (.nl (.nl (.nl .nil))))))))))))))))))))))))) (.sc (.sc .nil))) ⟨(Ab6 ⟨_, rfl, rfl⟩ ⟨trivial, ⟨trivial, ⟨trivial, ⟨trivial, ⟨trivial, ⟨trivial, ⟨(Ec ⟨_, _, rfl, rfl⟩), ⟨trivial, ⟨trivial, ⟨trivial, ⟨trivial, ⟨trivial, ⟨trivial, ⟨(Ec ⟨_, _, rfl, rfl⟩), ⟨trivial, ⟨trivial, ⟨trivial, ⟨trivial, ⟨trivial, ⟨(Ec ⟨_, _, rfl, rfl⟩), ⟨trivial, ⟨trivial, ⟨(Ec ⟨_, _, rfl, rfl⟩), ⟨(Ec ⟨_, _, rfl, rfl⟩), ⟨(Ec ⟨_, _, rfl, rfl⟩), trivial⟩⟩⟩⟩⟩⟩⟩⟩⟩⟩⟩⟩⟩⟩⟩⟩⟩⟩⟩⟩⟩⟩⟩⟩⟩), ⟨trivial, ⟨trivial, trivial⟩⟩⟩) ?_
 exact rfl
theorem Sw (n : Nat) (hn : 1048576 < n)  : Bp E0 (n + 4) 4 238 [.agg (En (⟨⟨#[]⟩, false⟩ : Jv))] = some (.sc (.bool true)) := by
 rw [Ax, W7, f238]
 refine De (G := (· = some (.sc (.bool true)))) ?_
 try simp only [C4, G5, B5, Bj, Dy, Ch, Dg, Cm, Da, F3, Jl]
 have s0 : Sep [] [] := Dc
 refine I7 s0 (Dh (Kc _)) fun i1 H s2 => ?_
 refine Aq (o' := 0) rfl ?_
 refine Ci (c := As ((⟨⟨#[]⟩, false⟩ : Jv).fHeld)) s2 (.here) rfl ?_
 refine Xj s2 rfl (.cons .ro .nil) (Sx (n + 1) (by omega)) rfl (Xq ⟨_, rfl, rfl⟩ (Sy _) (Bo (Bo Q4))) ?_
 rintro _ _ H ⟨_, _, _, _, rfl, rfl, ⟨x3, x4, x5, x6, x7, x8, lx3, lx4, lx5, lx6, lx7, lx8, rfl, rfl⟩, ⟨_, rfl, ⟨_, rfl, ⟨rfl, rfl⟩⟩⟩⟩ s9
 simp only [List.nil_append, List.cons_append] at s9
 refine Pm (v := .agg [.sc (.int .i64 pkt0.fType), .sc (.bool pkt0.fDup), .sc (.int .i64 pkt0.fQos), .sc (.bool pkt0.fRetain), .sc (.int .i64 pkt0.fId), .sc (.string pkt0.fTopic), x3, .sc (.string pkt0.fClient), .sc (.int .i64 pkt0.fLevel), .sc (.bool pkt0.fClean), .sc (.int .i64 pkt0.fKeep), .sc (.bool pkt0.fHasWill), .sc (.string pkt0.fWTopic), x4, .sc (.int .i64 pkt0.fWQos), .sc (.bool pkt0.fWRetain), .sc (.bool pkt0.fHasUser), .sc (.string pkt0.fUser), .sc (.bool pkt0.fHasPass), x5, .sc (.int .i64 pkt0.fCode), .sc (.bool pkt0.fPresent), x6, x7, x8]) rfl ?_
 refine Pm (v := .sc (.int .i64 0)) rfl ?_
 refine Pm (v := .sc (.int .i64 1)) rfl ?_
 refine Kf s9 fun i10 H s11 => ?_
 refine Nt (cs' := [.sc (.int .i64 pkt0.fType), .sc (.bool pkt0.fDup), .sc (.int .i64 pkt0.fQos), .sc (.bool pkt0.fRetain), .sc (.int .i64 pkt0.fId), .sc (.string pkt0.fTopic), x3, .sc (.string pkt0.fClient), .sc (.int .i64 pkt0.fLevel), .sc (.bool pkt0.fClean), .sc (.int .i64 pkt0.fKeep), .sc (.bool pkt0.fHasWill), .sc (.string pkt0.fWTopic), x4, .sc (.int .i64 pkt0.fWQos), .sc (.bool pkt0.fWRetain), .sc (.bool pkt0.fHasUser), .sc (.string pkt0.fUser), .sc (.bool pkt0.fHasPass), x5, .sc (.int .i64 pkt0.fCode), .sc (.bool pkt0.fPresent), x6, x7, x8]) s11 (.here) (Cr (Af rfl (Af rfl (Af rfl (Af rfl (Af rfl (Af rfl (Af lx3 (Af rfl (Af rfl (Af rfl (Af rfl (Af rfl (Af rfl (Af lx4 (Af rfl (Af rfl (Af rfl (Af rfl (Af rfl (Af lx5 (Af rfl (Af rfl (Af lx6 (Af lx7 (Af lx8 rfl)))))))))))))))))))))))))) rfl (Rj rfl) rfl fun H s12 => ?_
 refine Aq (o' := 0) rfl ?_
 refine Ci (c := As ((⟨⟨#[]⟩, false⟩ : Jv).fHeld)) s12 zP7 rfl ?_
 refine I9 ?_
 refine I8 ?_
 refine Cv rfl ?_
 refine Cv rfl ?_
 refine Cv rfl ?_
 refine Cv rfl ?_
 refine AaJ ?_
 refine AaJ ?_
 refine Cv rfl ?_
 refine E5 rfl ?_
 refine Dn rfl ?_
 first | rfl | (simp_all; done)
theorem S7 (n : Nat) (hn : 1048576 < n)  : Bp E0 (n + 4) 4 236 [.agg (En (⟨⟨#[]⟩, false⟩ : Jv))] = some (.sc (.bool true)) := by
 rw [Ax, W6, f236]
 refine De (G := (· = some (.sc (.bool true)))) ?_
 try simp only [C4, G5, B5, Bj, Dy, Ch, Dg, Bu, Cm, Da, F3, Jl]
 have s0 : Sep [] [] := Dc
 refine I7 s0 (Dh (Kc _)) fun i1 H s2 => ?_
 refine Aq (o' := 0) rfl ?_
 refine Ci (c := As ((⟨⟨#[]⟩, false⟩ : Jv).fHeld)) s2 (.here) rfl ?_
 refine I9 ?_
 refine I8 ?_
 refine Nq rfl ?_
 refine Dn rfl ?_
 first | rfl | (simp_all; done)
theorem S5 (n : Nat) (hn : 1048576 < n)  : Bp E0 (n + 2) 4 62 [.agg (D3 msgZ), .agg (D3 msgZ)] = some (.sc (.bool true)) := by
 rw [Ax, Z7, f62]
 refine De (G := (· = some (.sc (.bool true)))) ?_
 try simp only [C4, B5, Bj, Ch, Fj, Cm, Da]
 have s0 : Sep [] [] := Dc
 refine I7 s0 (Dh (I6 _)) fun i1 H s2 => ?_
 refine I7 s2 (Dh (I6 _)) fun i3 H s4 => ?_
 refine Aq (o' := 0) rfl ?_
 refine Ci (c := .sc (.string msgZ.fTopic)) s4 Ze rfl ?_
 refine Aq (o' := 0) rfl ?_
 refine Ci (c := .sc (.string msgZ.fTopic)) s4 (.here) rfl ?_
 refine Mb ?_
 refine Ay (beq_self_eq_true _) ?_
 refine Aq (o' := 1) rfl ?_
 refine Ay (beq_self_eq_true _) ?_
 refine Ci (c := As msgZ.fBody) s4 Ze rfl ?_
 refine Ay (beq_self_eq_true _) ?_
 refine Aq (o' := 1) rfl ?_
 refine Ay (beq_self_eq_true _) ?_
 refine Ci (c := As msgZ.fBody) s4 (.here) rfl ?_
 refine Ay (beq_self_eq_true _) ?_
 refine Eh (v := (.bool (msgZ.fBody.toList == msgZ.fBody.toList))) s4 rfl (.cons .ro (.cons .ro .nil)) (M7 n _ msgZ.fBody msgZ.fBody) ?_
 refine E5 (beq_self_eq_true _) ?_
 refine Ay (beq_self_eq_true _) ?_
 refine Aq (o' := 2) rfl ?_
 refine Ay (beq_self_eq_true _) ?_
 refine Ci (c := .sc (.int .i64 msgZ.fQos)) s4 Ze rfl ?_
 refine Ay (beq_self_eq_true _) ?_
 refine Aq (o' := 2) rfl ?_
 refine Ay (beq_self_eq_true _) ?_
 refine Ci (c := .sc (.int .i64 msgZ.fQos)) s4 (.here) rfl ?_
 refine Ay (beq_self_eq_true _) ?_
 refine I8 ?_
 refine E5 (beq_self_eq_true _) ?_
 refine Ay rfl ?_
 refine Aq (o' := 3) rfl ?_
 refine Ay rfl ?_
 refine Ci (c := .sc (.bool msgZ.fRetain)) s4 Ze rfl ?_
 refine Ay rfl ?_
 refine Aq (o' := 3) rfl ?_
 refine Ay rfl ?_
 refine Ci (c := .sc (.bool msgZ.fRetain)) s4 (.here) rfl ?_
 refine Ay rfl ?_
 refine Aac (v := .sc (.bool (msgZ.fRetain == msgZ.fRetain))) (fun k => rfl) ?_
 refine E5 rfl ?_
 refine Dn rfl ?_
 first | rfl | (simp_all; done)
theorem X2 (n : Nat) (hn : 1048576 < n)  : Bp E0 (n + 2) 4 142 [.agg (D3 msgZ)] = some (.sc (.bool true)) := by
 rw [Ax, Wr, f142]
 refine De (G := (· = some (.sc (.bool true)))) ?_
 try simp only [C4, B5, Bj, Ch, Dg, Cm, Da, F3]
 have s0 : Sep [] [] := Dc
 refine I7 s0 (Dh (I6 _)) fun i1 H s2 => ?_
 refine Aq (o' := 0) rfl ?_
 refine Ci (c := .sc (.string msgZ.fTopic)) s2 (.here) rfl ?_
 refine Mb ?_
 refine Ay (beq_self_eq_true _) ?_
 refine Aq (o' := 1) rfl ?_
 refine Ay (beq_self_eq_true _) ?_
 refine Ci (c := As msgZ.fBody) s2 (.here) rfl ?_
 refine Ay (beq_self_eq_true _) ?_
 refine I9 ?_
 refine Ay (beq_self_eq_true _) ?_
 refine I8 ?_
 refine E5 (beq_self_eq_true _) ?_
 refine Ay rfl ?_
 refine Aq (o' := 2) rfl ?_
 refine Ay rfl ?_
 refine Ci (c := .sc (.int .i64 msgZ.fQos)) s2 (.here) rfl ?_
 refine Ay rfl ?_
 refine I8 ?_
 refine E5 rfl ?_
 refine Ay rfl ?_
 refine Aq (o' := 3) rfl ?_
 refine Ay rfl ?_
 refine Ci (c := .sc (.bool msgZ.fRetain)) s2 (.here) rfl ?_
 refine Ay rfl ?_
 refine Gx ?_
 refine E5 rfl ?_
 refine Dn rfl ?_
 first | rfl | (simp_all; done)
theorem Ps (n : Nat) (hn : 1048576 < n) (g : Int) (l : Int) : Bp E0 (n + 4) 4 239 [.agg (A3 (zc g l))] = some (.sc (.bool true)) := by
 rw [Ax, W8, f239]
 refine De (G := (· = some (.sc (.bool true)))) ?_
 try simp only [C4, B5, Bj, Ch, Dg, Bu, Cm, Da, Jm]
 have s0 : Sep [] [] := Dc
 refine I7 s0 (Dh (Fn _)) fun i1 H s2 => ?_
 refine Aq (o' := 5) rfl ?_
 refine Ci (c := .sc (.bool (zc g l).fUp)) s2 (.here) rfl ?_
 refine Gx ?_
 refine Nq (nT rfl) ?_
 refine Aq (o' := 6) rfl ?_
 refine Ci (c := .sc (.string ((zc g l).fClient))) s2 (.here) rfl ?_
 refine Mb ?_
 refine Ay (beq_self_eq_true _) ?_
 refine Aq (o' := 7) rfl ?_
 refine Ay (beq_self_eq_true _) ?_
 refine Ci (c := .sc (.int .i64 ((zc g l).fKeep))) s2 (.here) rfl ?_
 refine Ay (beq_self_eq_true _) ?_
 refine I8 ?_
 refine E5 (beq_self_eq_true _) ?_
 refine Ay rfl ?_
 refine Aq (o' := 9) rfl ?_
 refine Ay rfl ?_
 refine Ci (c := .sc (.bool (zc g l).fHasWill)) s2 (.here) rfl ?_
 refine Ay rfl ?_
 refine Gx ?_
 refine E5 rfl ?_
 refine Ay (nT rfl) ?_
 refine Aq (o' := 10) rfl ?_
 refine Ay (nT rfl) ?_
 refine Nr (ds := D3 ((zc g l).fW)) s2 (.here) (Rj rfl) rfl ?_
 refine Ay (nT rfl) ?_
 refine Io (cs := [.sc (.string (⟨#[]⟩)), .nl, .sc (.int .i64 0), .sc (.bool false)]) rfl ?_
 refine Ay (nT rfl) ?_
 refine Eh (v := (.bool true)) s2 rfl (.aggF (I6 _) (.agg (.cons .sc (.cons .nl (.cons .sc (.cons .sc .nil)))) .nil)) (S5 (n + 1) (by omega)) ?_
 refine E5 (nT rfl) ?_
 refine Dn rfl ?_
 first | rfl | (simp_all; done)
theorem Pq (n : Nat) (hn : 1048576 < n) (g : Int) (l : Int) : Bp E0 (n + 8) 4 156 [.agg (A3 (zc g l))] = some (.sc (.bool (Lc g l))) := by
 rw [Ax, Wu, f156]
 refine De (G := (· = some (.sc (.bool (Lc g l))))) ?_
 try simp only [C4, B5, Bj, Dg, Bu, F3]
 have s0 : Sep [] [] := Dc
 refine I7 s0 (Dh (Fn _)) fun i1 H s2 => ?_
 refine Aq (o' := 0) rfl ?_
 refine Ci (c := .sc (.bool (zc g l).fOpen)) s2 (.here) rfl ?_
 refine Gx ?_
 refine Pj (nF rfl) ?_
 refine Aq (o' := 4) rfl ?_
 refine Ci (c := C0 Ap ((zc g l).fPend)) s2 (.here) rfl ?_
 refine I9 ?_
 rw [Hs]
 try simp only [G5, B5, Bj, Dy, Ch, Dg, Bu, Cm, Da, F3, Lu]
 refine Q3 ?_
 refine Pj rfl ?_
 refine Aq (o' := 1) rfl ?_
 refine Ci (c := .sc (.int .i64 ((zc g l).fGen))) s2 (.here) rfl ?_
 refine Y6 ?_
 refine Gt ((decide (1 ≤ ((zc g l).fGen)))) (fun h3 => ?_) (fun h3 => ?_)
 ·refine Ay h3 ?_
  refine Aq (o' := 2) rfl ?_
  refine Ay h3 ?_
  refine Nr (ds := En ((zc g l).fB)) s2 (.here) (Rj rfl) rfl ?_
  refine Ay h3 ?_
  refine Eh (v := (.bool true)) s2 rfl (.aggF (Kc _) .nil) (Sw (n + 3) (by omega)) ?_
  refine E5 h3 ?_
  refine Ay rfl ?_
  refine Aq (o' := 4) rfl ?_
  refine Ay rfl ?_
  refine Ci (c := C0 Ap ((zc g l).fPend)) s2 (.here) rfl ?_
  refine Ay rfl ?_
  refine I9 ?_
  refine Ay rfl ?_
  refine AaL ?_
  refine E5 rfl ?_
  refine Ay rfl ?_
  refine Aq (o' := 8) rfl ?_
  refine Ay rfl ?_
  refine Ci (c := .sc (.int .i64 ((zc g l).fLast))) s2 (.here) rfl ?_
  refine Ay rfl ?_
  refine Y6 ?_
  refine E5 rfl ?_
  refine Gt ((decide (0 ≤ ((zc g l).fLast)))) (fun h4 => ?_) (fun h4 => ?_)
  ·refine Ay h4 ?_
   refine Gw s2 (.here) rfl ?_
   refine Ay h4 ?_
   refine Eh (v := (.bool true)) s2 rfl (.aggF (Fn _) .nil) (Ps (n + 3) (by omega) g l) ?_
   refine E5 h4 ?_
   refine Dn rfl ?_
   have e : Lc g l = true := by
    clear s0 s2
    simp only [decide_eq_true_eq, decide_eq_false_iff_not, show ∀ g l, (zc g l).fGen = g from fun _ _ => rfl, show ∀ g l, (zc g l).fLast = l from fun _ _ => rfl] at h3 h4
    unfold Lc; simp; omega
   rw [e]
   first | done | rfl
  ·refine Cv h4 ?_
   refine Cv h4 ?_
   refine Ns h4 ?_
   refine Dn rfl ?_
   have e : Lc g l = false := by
    clear s0 s2
    simp only [decide_eq_true_eq, decide_eq_false_iff_not, show ∀ g l, (zc g l).fGen = g from fun _ _ => rfl, show ∀ g l, (zc g l).fLast = l from fun _ _ => rfl] at h3 h4
    unfold Lc; simp; omega
   rw [e]
   first | done | rfl
 ·refine Cv h3 ?_
  refine Cv h3 ?_
  refine Cv h3 ?_
  refine Ns h3 ?_
  refine Cv rfl ?_
  refine Cv rfl ?_
  refine Cv rfl ?_
  refine Cv rfl ?_
  refine Ns rfl ?_
  refine Cv rfl ?_
  refine Cv rfl ?_
  refine Cv rfl ?_
  refine Ns rfl ?_
  refine Cv rfl ?_
  refine Cv rfl ?_
  refine Ns rfl ?_
  refine Dn rfl ?_
  have e : Lc g l = false := by
   clear s0 s2
   simp only [decide_eq_true_eq, decide_eq_false_iff_not, show ∀ g l, (zc g l).fGen = g from fun _ _ => rfl, show ∀ g l, (zc g l).fLast = l from fun _ _ => rfl] at h3
   unfold Lc; simp; omega
  rw [e]
  first | done | rfl
theorem P8 (n : Nat) (hn : 1048576 < n) (g : Int) (l : Int) : Bp E0 (n + 8) 4 155 [.agg (A3 (zc g l))] = some (.sc (.bool (Lc g l))) := by
 rw [Ax, Wt, f155]
 refine De (G := (· = some (.sc (.bool (Lc g l))))) ?_
 try simp only [C4, B5, Bj, Ch, Dg, Bu, Cm, Da, F3]
 have s0 : Sep [] [] := Dc
 refine I7 s0 (Dh (Fn _)) fun i1 H s2 => ?_
 refine Aq (o' := 0) rfl ?_
 refine Ci (c := .sc (.bool (zc g l).fOpen)) s2 (.here) rfl ?_
 refine Gx ?_
 refine Pj (nF rfl) ?_
 rw [Hr]
 try simp only [B5, Bj, Ch, Dg, Bu, Cm, Da, F3, Lu]
 refine Aq (o' := 4) rfl ?_
 refine Ci (c := C0 Ap ((zc g l).fPend)) s2 (.here) rfl ?_
 refine I9 ?_
 refine Q3 ?_
 refine Pj rfl ?_
 refine Aq (o' := 1) rfl ?_
 refine Ci (c := .sc (.int .i64 ((zc g l).fGen))) s2 (.here) rfl ?_
 refine Q3 ?_
 refine Gt ((decide (((zc g l).fGen) < 1))) (fun h3 => ?_) (fun h3 => ?_)
 ·refine Cv h3 ?_
  refine Cv h3 ?_
  refine Cv h3 ?_
  refine Cv h3 ?_
  refine E5 h3 ?_
  refine Cv rfl ?_
  refine Cv rfl ?_
  refine Cv rfl ?_
  refine Cv rfl ?_
  refine E5 rfl ?_
  refine Cv rfl ?_
  refine Cv rfl ?_
  refine Cv rfl ?_
  refine E5 rfl ?_
  refine Nq rfl ?_
  refine Dn rfl ?_
  have e : Lc g l = false := by
   clear s0 s2
   simp only [decide_eq_true_eq, decide_eq_false_iff_not, show ∀ g l, (zc g l).fGen = g from fun _ _ => rfl, show ∀ g l, (zc g l).fLast = l from fun _ _ => rfl] at h3
   unfold Lc; simp; omega
  rw [e]
  first | done | rfl
 ·refine Ay h3 ?_
  refine Aq (o' := 2) rfl ?_
  refine Ay h3 ?_
  refine Nr (ds := En ((zc g l).fB)) s2 (.here) (Rj rfl) rfl ?_
  refine Ay h3 ?_
  refine Eh (v := (.bool true)) s2 rfl (.aggF (Kc _) .nil) (S7 (n + 3) (by omega)) ?_
  refine Ay h3 ?_
  refine Gx ?_
  refine Ns h3 ?_
  refine Ay (nF rfl) ?_
  refine Aq (o' := 4) rfl ?_
  refine Ay (nF rfl) ?_
  refine Ci (c := C0 Ap ((zc g l).fPend)) s2 (.here) rfl ?_
  refine Ay (nF rfl) ?_
  refine I9 ?_
  refine Ay (nF rfl) ?_
  refine AaK ?_
  refine Ns (nF rfl) ?_
  refine Ay rfl ?_
  refine Aq (o' := 8) rfl ?_
  refine Ay rfl ?_
  refine Ci (c := .sc (.int .i64 ((zc g l).fLast))) s2 (.here) rfl ?_
  refine Ay rfl ?_
  refine Q3 ?_
  refine Ns rfl ?_
  refine Gt ((decide (((zc g l).fLast) < 0))) (fun h4 => ?_) (fun h4 => ?_)
  ·refine Nq h4 ?_
   refine Dn rfl ?_
   have e : Lc g l = false := by
    clear s0 s2
    simp only [decide_eq_true_eq, decide_eq_false_iff_not, show ∀ g l, (zc g l).fGen = g from fun _ _ => rfl, show ∀ g l, (zc g l).fLast = l from fun _ _ => rfl] at h3 h4
    unfold Lc; simp; omega
   rw [e]
   first | done | rfl
  ·refine Pj h4 ?_
   refine Aq (o' := 5) rfl ?_
   refine Ci (c := .sc (.bool (zc g l).fUp)) s2 (.here) rfl ?_
   refine Gx ?_
   refine Nq (nT rfl) ?_
   refine Aq (o' := 6) rfl ?_
   refine Ci (c := .sc (.string ((zc g l).fClient))) s2 (.here) rfl ?_
   refine Mb ?_
   refine Ay (beq_self_eq_true _) ?_
   refine Aq (o' := 7) rfl ?_
   refine Ay (beq_self_eq_true _) ?_
   refine Ci (c := .sc (.int .i64 ((zc g l).fKeep))) s2 (.here) rfl ?_
   refine Ay (beq_self_eq_true _) ?_
   refine I8 ?_
   refine E5 (beq_self_eq_true _) ?_
   refine Ay rfl ?_
   refine Aq (o' := 9) rfl ?_
   refine Ay rfl ?_
   refine Ci (c := .sc (.bool (zc g l).fHasWill)) s2 (.here) rfl ?_
   refine Ay rfl ?_
   refine Gx ?_
   refine E5 rfl ?_
   refine Ay (nT rfl) ?_
   refine Aq (o' := 10) rfl ?_
   refine Ay (nT rfl) ?_
   refine Nr (ds := D3 ((zc g l).fW)) s2 (.here) (Rj rfl) rfl ?_
   refine Ay (nT rfl) ?_
   refine Eh (v := (.bool true)) s2 rfl (.aggF (I6 _) .nil) (X2 (n + 5) (by omega)) ?_
   refine E5 (nT rfl) ?_
   refine Dn rfl ?_
   have e : Lc g l = true := by
    clear s0 s2
    simp only [decide_eq_true_eq, decide_eq_false_iff_not, show ∀ g l, (zc g l).fGen = g from fun _ _ => rfl, show ∀ g l, (zc g l).fLast = l from fun _ _ => rfl] at h3 h4
    unfold Lc; simp; omega
   rw [e]
   first | done | rfl
theorem Gy (n : Nat) (hn : 1048576 < n) (x0 : Int) (x1 : Int) (k0 : okI x0) (k1 : okI x1) : Bp E0 (n + 13) 95 47 [.sc (.int .i64 x0), .sc (.int .i64 x1)] = some (.agg (A3 (Ah x0 x1))) := by
 rw [Ax, Z3, f47]
 refine De (G := (· = some (.agg (A3 (Ah x0 x1))))) ?_
 try simp only [G5, Bj, Dy, Dg, Bu, Jm]
 have s0 : Sep [] [] := Dc
 refine Kf s0 fun i1 H s2 => ?_
 refine Io (cs := [.sc (.bool true), .sc (.int .i64 x0), .nl, .sc (.bool false), .nl, .sc (.bool false), .sc (.string (⟨#[]⟩)), .sc (.int .i64 0), .sc (.int .i64 x1), .sc (.bool false), .sc (.string (⟨#[]⟩)), .nl, .sc (.int .i64 0), .sc (.bool false), .sc (.bool false), .nl]) rfl ?_
 refine Kf s2 fun i3 H s4 => ?_
 refine Nt (cs' := [.sc (.bool true), .sc (.int .i64 x0), .nl, .sc (.bool false), .nl, .sc (.bool false), .sc (.string (⟨#[]⟩)), .sc (.int .i64 0), .sc (.int .i64 x1), .sc (.bool false), .sc (.string (⟨#[]⟩)), .nl, .sc (.int .i64 0), .sc (.bool false), .sc (.bool false), .nl]) s4 (.here) (Cr (Af rfl (Af rfl (Af rfl (Af rfl (Af rfl (Af rfl (Af rfl (Af rfl (Af rfl (Af rfl (Af rfl (Af rfl (Af rfl (Af rfl (Af rfl (Af rfl rfl))))))))))))))))) rfl (Rj rfl) rfl fun H s5 => ?_
 refine Gw s5 (.here) rfl ?_
 refine Eh (v := (.bool (Lc x0 x1))) s5 rfl (.agg (.cons .sc (.cons .sc (.cons .nl (.cons .sc (.cons .nl (.cons .sc (.cons .sc (.cons .sc (.cons .sc (.cons .sc (.cons .sc (.cons .nl (.cons .sc (.cons .sc (.cons .sc (.cons .nl .nil)))))))))))))))) .nil) (Pq (n + 4) (by omega) x0 x1) ?_
 refine Gx ?_
 refine Gt ((Lc x0 x1)) (fun h6 => ?_) (fun h6 => ?_)
 ·refine Pj (nF h6) ?_
  refine Gw s5 (.here) rfl ?_
  refine Nt (cs' := [.sc (.bool true), .sc (.int .i64 x0), .nl, .sc (.bool false), .nl, .sc (.bool false), .sc (.string (⟨#[]⟩)), .sc (.int .i64 0), .sc (.int .i64 x1), .sc (.bool false), .sc (.string (⟨#[]⟩)), .nl, .sc (.int .i64 0), .sc (.bool false), .sc (.bool false), .nl]) s5 Ze (Cr (Af rfl (Af rfl (Af rfl (Af rfl (Af rfl (Af rfl (Af rfl (Af rfl (Af rfl (Af rfl (Af rfl (Af rfl (Af rfl (Af rfl (Af rfl (Af rfl rfl))))))))))))))))) rfl (Rj rfl) rfl fun H s7 => ?_
  refine Gw s7 (.here) rfl ?_
  refine Dn (Js s7 ⟨_, rfl, rfl⟩ (.sc (.sc (.nl (.sc (.nl (.sc (.sc (.sc (.sc (.sc (.sc (.nl (.sc (.sc (.sc (.nl .nil)))))))))))))))) ⟨trivial, ⟨trivial, ⟨(Ec ⟨_, _, rfl, rfl⟩), ⟨trivial, ⟨(Ec ⟨_, _, rfl, rfl⟩), ⟨trivial, ⟨trivial, ⟨trivial, ⟨trivial, ⟨trivial, ⟨trivial, ⟨(Ec ⟨_, _, rfl, rfl⟩), ⟨trivial, ⟨trivial, ⟨trivial, ⟨(Ec ⟨_, _, rfl, rfl⟩), trivial⟩⟩⟩⟩⟩⟩⟩⟩⟩⟩⟩⟩⟩⟩⟩⟩) ?_
  have e8 : Ah x0 x1 = (⟨true, x0, ⟨⟨#[]⟩, false⟩, [], false, ⟨#[]⟩, 0, x1, false, ⟨⟨#[]⟩, ⟨#[]⟩, 0, false⟩, false, ⟨#[]⟩⟩ : Df) := by
   clear s0 s2 s4 s5 s7
   try simp only [decide_eq_true_eq, decide_eq_false_iff_not, bne_iff_ne, beq_iff_eq, beq_eq_false_iff_ne] at h6
   first | assumption | (simp only [Ah, zc, Nc, msgZ, h6, if_true, if_false, Bool.false_eq_true]; first | done | rfl)
  rw [e8]
  first | done | rfl
 ·refine Nq (nT h6) ?_
  refine Io (cs := [.sc (.bool false), .sc (.int .i64 0), .nl, .sc (.bool false), .nl, .sc (.bool false), .sc (.string (⟨#[]⟩)), .sc (.int .i64 0), .sc (.int .i64 0), .sc (.bool false), .sc (.string (⟨#[]⟩)), .nl, .sc (.int .i64 0), .sc (.bool false), .sc (.bool false), .nl]) rfl ?_
  refine Nt (cs' := [.sc (.bool false), .sc (.int .i64 0), .nl, .sc (.bool false), .nl, .sc (.bool false), .sc (.string (⟨#[]⟩)), .sc (.int .i64 0), .sc (.int .i64 0), .sc (.bool false), .sc (.string (⟨#[]⟩)), .nl, .sc (.int .i64 0), .sc (.bool false), .sc (.bool false), .nl]) s5 Ze (Cr (Af rfl (Af rfl (Af rfl (Af rfl (Af rfl (Af rfl (Af rfl (Af rfl (Af rfl (Af rfl (Af rfl (Af rfl (Af rfl (Af rfl (Af rfl (Af rfl rfl))))))))))))))))) rfl (Rj rfl) rfl fun H s9 => ?_
  refine Gw s9 (.here) rfl ?_
  refine Dn (Js s9 ⟨_, rfl, rfl⟩ (.sc (.sc (.nl (.sc (.nl (.sc (.sc (.sc (.sc (.sc (.sc (.nl (.sc (.sc (.sc (.nl .nil)))))))))))))))) ⟨trivial, ⟨trivial, ⟨(Ec ⟨_, _, rfl, rfl⟩), ⟨trivial, ⟨(Ec ⟨_, _, rfl, rfl⟩), ⟨trivial, ⟨trivial, ⟨trivial, ⟨trivial, ⟨trivial, ⟨trivial, ⟨(Ec ⟨_, _, rfl, rfl⟩), ⟨trivial, ⟨trivial, ⟨trivial, ⟨(Ec ⟨_, _, rfl, rfl⟩), trivial⟩⟩⟩⟩⟩⟩⟩⟩⟩⟩⟩⟩⟩⟩⟩⟩) ?_
  have e10 : Ah x0 x1 = (⟨false, 0, ⟨⟨#[]⟩, false⟩, [], false, ⟨#[]⟩, 0, 0, false, ⟨⟨#[]⟩, ⟨#[]⟩, 0, false⟩, false, ⟨#[]⟩⟩ : Df) := by
   clear s0 s2 s4 s5 s9
   try simp only [decide_eq_true_eq, decide_eq_false_iff_not, bne_iff_ne, beq_iff_eq, beq_eq_false_iff_ne] at h6
   first | assumption | (simp only [Ah, zc, Nc, msgZ, h6, if_true, if_false, Bool.false_eq_true]; first | done | rfl)
  rw [e10]
  first | done | rfl
theorem Lb (n : Nat) (hn : 1048576 < n) (x0 : Int) (x1 : Int) (k0 : okI x0) (k1 : okI x1) : Bp E0 (n + 13) 95 46 [.sc (.int .i64 x0), .sc (.int .i64 x1)] = some (.agg (A3 (Ah x0 x1))) := by
 rw [Ax, Z2, f46]
 refine De (G := (· = some (.agg (A3 (Ah x0 x1))))) ?_
 try simp only [G5, Bj, Dy, Dg, Bu, Jm]
 have s0 : Sep [] [] := Dc
 refine Kf s0 fun i1 H s2 => ?_
 refine Io (cs := [.sc (.bool true), .sc (.int .i64 x0), .nl, .sc (.bool false), .nl, .sc (.bool false), .sc (.string (⟨#[]⟩)), .sc (.int .i64 0), .sc (.int .i64 x1), .sc (.bool false), .sc (.string (⟨#[]⟩)), .nl, .sc (.int .i64 0), .sc (.bool false), .sc (.bool false), .nl]) rfl ?_
 refine Kf s2 fun i3 H s4 => ?_
 refine Nt (cs' := [.sc (.bool true), .sc (.int .i64 x0), .nl, .sc (.bool false), .nl, .sc (.bool false), .sc (.string (⟨#[]⟩)), .sc (.int .i64 0), .sc (.int .i64 x1), .sc (.bool false), .sc (.string (⟨#[]⟩)), .nl, .sc (.int .i64 0), .sc (.bool false), .sc (.bool false), .nl]) s4 (.here) (Cr (Af rfl (Af rfl (Af rfl (Af rfl (Af rfl (Af rfl (Af rfl (Af rfl (Af rfl (Af rfl (Af rfl (Af rfl (Af rfl (Af rfl (Af rfl (Af rfl rfl))))))))))))))))) rfl (Rj rfl) rfl fun H s5 => ?_
 refine Gw s5 (.here) rfl ?_
 refine Eh (v := (.bool (Lc x0 x1))) s5 rfl (.agg (.cons .sc (.cons .sc (.cons .nl (.cons .sc (.cons .nl (.cons .sc (.cons .sc (.cons .sc (.cons .sc (.cons .sc (.cons .sc (.cons .nl (.cons .sc (.cons .sc (.cons .sc (.cons .nl .nil)))))))))))))))) .nil) (P8 (n + 4) (by omega) x0 x1) ?_
 refine Gx ?_
 refine Gt ((Lc x0 x1)) (fun h6 => ?_) (fun h6 => ?_)
 ·refine Pj (nF h6) ?_
  refine Gw s5 (.here) rfl ?_
  refine Nt (cs' := [.sc (.bool true), .sc (.int .i64 x0), .nl, .sc (.bool false), .nl, .sc (.bool false), .sc (.string (⟨#[]⟩)), .sc (.int .i64 0), .sc (.int .i64 x1), .sc (.bool false), .sc (.string (⟨#[]⟩)), .nl, .sc (.int .i64 0), .sc (.bool false), .sc (.bool false), .nl]) s5 Ze (Cr (Af rfl (Af rfl (Af rfl (Af rfl (Af rfl (Af rfl (Af rfl (Af rfl (Af rfl (Af rfl (Af rfl (Af rfl (Af rfl (Af rfl (Af rfl (Af rfl rfl))))))))))))))))) rfl (Rj rfl) rfl fun H s7 => ?_
  refine Gw s7 (.here) rfl ?_
  refine Dn (Js s7 ⟨_, rfl, rfl⟩ (.sc (.sc (.nl (.sc (.nl (.sc (.sc (.sc (.sc (.sc (.sc (.nl (.sc (.sc (.sc (.nl .nil)))))))))))))))) ⟨trivial, ⟨trivial, ⟨(Ec ⟨_, _, rfl, rfl⟩), ⟨trivial, ⟨(Ec ⟨_, _, rfl, rfl⟩), ⟨trivial, ⟨trivial, ⟨trivial, ⟨trivial, ⟨trivial, ⟨trivial, ⟨(Ec ⟨_, _, rfl, rfl⟩), ⟨trivial, ⟨trivial, ⟨trivial, ⟨(Ec ⟨_, _, rfl, rfl⟩), trivial⟩⟩⟩⟩⟩⟩⟩⟩⟩⟩⟩⟩⟩⟩⟩⟩) ?_
  have e8 : Ah x0 x1 = (⟨true, x0, ⟨⟨#[]⟩, false⟩, [], false, ⟨#[]⟩, 0, x1, false, ⟨⟨#[]⟩, ⟨#[]⟩, 0, false⟩, false, ⟨#[]⟩⟩ : Df) := by
   clear s0 s2 s4 s5 s7
   try simp only [decide_eq_true_eq, decide_eq_false_iff_not, bne_iff_ne, beq_iff_eq, beq_eq_false_iff_ne] at h6
   first | assumption | (simp only [Ah, zc, Nc, msgZ, h6, if_true, if_false, Bool.false_eq_true]; first | done | rfl)
  rw [e8]
  first | done | rfl
 ·refine Nq (nT h6) ?_
  refine Io (cs := [.sc (.bool false), .sc (.int .i64 0), .nl, .sc (.bool false), .nl, .sc (.bool false), .sc (.string (⟨#[]⟩)), .sc (.int .i64 0), .sc (.int .i64 0), .sc (.bool false), .sc (.string (⟨#[]⟩)), .nl, .sc (.int .i64 0), .sc (.bool false), .sc (.bool false), .nl]) rfl ?_
  refine Nt (cs' := [.sc (.bool false), .sc (.int .i64 0), .nl, .sc (.bool false), .nl, .sc (.bool false), .sc (.string (⟨#[]⟩)), .sc (.int .i64 0), .sc (.int .i64 0), .sc (.bool false), .sc (.string (⟨#[]⟩)), .nl, .sc (.int .i64 0), .sc (.bool false), .sc (.bool false), .nl]) s5 Ze (Cr (Af rfl (Af rfl (Af rfl (Af rfl (Af rfl (Af rfl (Af rfl (Af rfl (Af rfl (Af rfl (Af rfl (Af rfl (Af rfl (Af rfl (Af rfl (Af rfl rfl))))))))))))))))) rfl (Rj rfl) rfl fun H s9 => ?_
  refine Gw s9 (.here) rfl ?_
  refine Dn (Js s9 ⟨_, rfl, rfl⟩ (.sc (.sc (.nl (.sc (.nl (.sc (.sc (.sc (.sc (.sc (.sc (.nl (.sc (.sc (.sc (.nl .nil)))))))))))))))) ⟨trivial, ⟨trivial, ⟨(Ec ⟨_, _, rfl, rfl⟩), ⟨trivial, ⟨(Ec ⟨_, _, rfl, rfl⟩), ⟨trivial, ⟨trivial, ⟨trivial, ⟨trivial, ⟨trivial, ⟨trivial, ⟨(Ec ⟨_, _, rfl, rfl⟩), ⟨trivial, ⟨trivial, ⟨trivial, ⟨(Ec ⟨_, _, rfl, rfl⟩), trivial⟩⟩⟩⟩⟩⟩⟩⟩⟩⟩⟩⟩⟩⟩⟩⟩) ?_
  have e10 : Ah x0 x1 = (⟨false, 0, ⟨⟨#[]⟩, false⟩, [], false, ⟨#[]⟩, 0, 0, false, ⟨⟨#[]⟩, ⟨#[]⟩, 0, false⟩, false, ⟨#[]⟩⟩ : Df) := by
   clear s0 s2 s4 s5 s9
   try simp only [decide_eq_true_eq, decide_eq_false_iff_not, bne_iff_ne, beq_iff_eq, beq_eq_false_iff_ne] at h6
   first | assumption | (simp only [Ah, zc, Nc, msgZ, h6, if_true, if_false, Bool.false_eq_true]; first | done | rfl)
  rw [e10]
  first | done | rfl
theorem Kx (x0 x1 : Int) : Ea (Ah x0 x1) ≤ 1048576 ∧ P7 (Ah x0 x1) := by
 have h : Ea (Ah x0 x1) ≤ 1048576 := by
  unfold Ah
  split <;> exact Nat.zero_le _
 exact ⟨h, Yi _ h⟩
end
section
open Go
theorem AtL.split {H : Aa} {ys : List AV} {N : Nat} {ts us : List Nat} {cs ds : List AV} (h : AtL H ys N (ts ++ us) (cs ++ ds)) (hl : ts.length = cs.length) : ∃ y1 y2, ys = y1 ++ y2 ∧ AtL H y1 N ts cs ∧ AtL H y2 (N + A8 cs) us ds := by
 obtain ⟨h1, h2, h3⟩ := h
 have e := Cz (ti := Ad) (tp := E0.tp) ts cs us ds N hl
 rw [Aw] at e
 rw [e] at h1 h3
 rw [Bz] at h2
 have h4 := h3.right
 rw [Aw] at h4
 exact ⟨_, _, h1, ⟨rfl, by omega, h3.left⟩, ⟨rfl, by omega, h4⟩⟩
theorem AtL.own {d : Nat} {H : Aa} {ys : List AV} {N : Nat} {ts : List Nat} {cs : List AV} (h : AtL H ys N ts cs) (hok : B7 (C2 Ad E0.tp d) ts cs) : OwnC d H ts ys cs (List.range' N (A8 cs)) := by
 have := It (fun ty t N h h' _ => Kt d ty t N h h') ts cs N hok h.2.2 (B9 _ _ _)
 rw [Aw, ← h.1] at this
 exact this
end
end Go.Proofs.YtjiahcekpohehaaGreatDoor.Abs
namespace Go.Proofs.YtjiahcekpohehaaGreatDoor.Abs
open Go
set_option linter.unusedVariables false
set_option linter.unusedSimpArgs false
theorem Nw (n : Nat) (hn : 1048576 < n) (x0 : Int) (x1 : Int) (k0 : okI x0) (k1 : okI x1) : Bp E0 (n + 30) 4 7 [.sc (.int .i64 x0), .sc (.int .i64 x1)] = some (.sc (.bool true)) := by
 rw [Ax, Aa6, f7]
 simp only [C4, G5, Bj, Dy, Ch, Fj, Dg, Bu, Wc, Jl, Cm, Da]
 have c1 := Tr (Ah x0 x1)
 obtain ⟨s2w, s2⟩ := Kx x0 x1
 refine Px rfl (El (I1 _ _) (El (I1 _ _) Qe)) (Lb (n + 16) (by omega) x0 x1 k0 k1) Qd fun y6 X4 N3 n5 a7 => ?_
 refine Py rfl (a7.len.trans (Db _)) (a7.leaf (Fn _)) fun i9 i9E B8 => ?_
 have o10 : N3 + A8 (A3 (Ah x0 x1)) ≤ i9 := by have := a7.2.1; omega
 replace a7 := a7.grow [⟨y6, true, true⟩]
 refine Px rfl (El (I1 _ _) (El (I1 _ _) Qe)) (Gy (n + 16) (by omega) x0 x1 k0 k1) Qd fun y14 X12 N11 n13 a15 => ?_
 have o16 : N3 + A8 (A3 (Ah x0 x1)) ≤ N11 := by have := a7.2.1; omega
 have o17 : i9 < N11 := by have := (List.getElem?_eq_some_iff.1 B8).1; omega
 replace a7 := a7.grow X12
 replace B8 := E2 B8 X12
 refine Py rfl (a15.len.trans (Db _)) (a15.leaf (Fn _)) fun i19 i19E B18 => ?_
 have o20 : N3 + A8 (A3 (Ah x0 x1)) ≤ i19 := by have := a7.2.1; omega
 have o21 : i9 < i19 := by have := (List.getElem?_eq_some_iff.1 B8).1; omega
 have o22 : N11 + A8 (A3 (Ah x0 x1)) ≤ i19 := by have := a15.2.1; omega
 replace a7 := a7.grow [⟨y14, true, true⟩]
 replace B8 := E2 B8 [⟨y14, true, true⟩]
 replace a15 := a15.grow [⟨y14, true, true⟩]
 refine Kl B18 (a15.len.trans (Db _)) ?_
 refine Kl B8 (a7.len.trans (Db _)) ?_
 refine Y8 rfl (El (a15.vw (Gq 4 (Ah x0 x1))) (El (a7.vw (Gq 4 (Ah x0 x1))) Qe)) (Ni (n + 24) (by omega) _ (Ah x0 x1) s2w) ?_
 refine U8 ?_
 refine Q5 ?_
 refine Kl B18 (a15.len.trans (Db _)) ?_
 refine U6 (Vc (n + 25) (by omega)) rfl a15 (Mt _ s2) (by omega) (by omega) fun G23 a25 q24 => ?_
 replace a7 := a7.kept q24 (by omega)
 replace B8 := M4 B8 q24 (by omega)
 replace B18 := M4 B18 q24 (by omega)
 refine Kl B18 (a15.len.trans (Db _)) ?_
 refine Nx (Nu (n + 25) (by omega)) (a25.vw (Ny _ _ (Gq 4 (Ah x0 x1)))) (Mt _ s2) (by omega) (by omega) ?_
 refine U7 ?_
 refine Q5 ?_
 refine Px rfl (El (I1 _ _) (El (I1 _ _) Qe)) (Gy (n + 16) (by omega) x0 x1 k0 k1) Qd fun y29 X27 N26 n28 a30 => ?_
 have o31 : N3 + A8 (A3 (Ah x0 x1)) ≤ N26 := by have := a7.2.1; omega
 have o32 : i9 < N26 := by have := (List.getElem?_eq_some_iff.1 B8).1; omega
 have o33 : N11 + A8 (A3 (Ah x0 x1)) ≤ N26 := by have := a25.2.1; rw [F9] at this; omega
 have o34 : i19 < N26 := by have := (List.getElem?_eq_some_iff.1 B18).1; omega
 replace a7 := a7.grow X27
 replace B8 := E2 B8 X27
 replace a25 := a25.grow X27
 replace B18 := E2 B18 X27
 refine Py rfl (a30.len.trans (Db _)) (a30.leaf (Fn _)) fun i36 i36E B35 => ?_
 have o37 : N3 + A8 (A3 (Ah x0 x1)) ≤ i36 := by have := a7.2.1; omega
 have o38 : i9 < i36 := by have := (List.getElem?_eq_some_iff.1 B8).1; omega
 have o39 : N11 + A8 (A3 (Ah x0 x1)) ≤ i36 := by have := a25.2.1; rw [F9] at this; omega
 have o40 : i19 < i36 := by have := (List.getElem?_eq_some_iff.1 B18).1; omega
 have o41 : N26 + A8 (A3 (Ah x0 x1)) ≤ i36 := by have := a30.2.1; omega
 replace a7 := a7.grow [⟨y29, true, true⟩]
 replace B8 := E2 B8 [⟨y29, true, true⟩]
 replace a25 := a25.grow [⟨y29, true, true⟩]
 replace B18 := E2 B18 [⟨y29, true, true⟩]
 replace a30 := a30.grow [⟨y29, true, true⟩]
 refine Kl B35 (a30.len.trans (Db _)) ?_
 refine Kl B8 (a7.len.trans (Db _)) ?_
 refine Y8 rfl (El (a30.vw (Gq 4 (Ah x0 x1))) (El (a7.vw (Gq 4 (Ah x0 x1))) Qe)) (Ni (n + 24) (by omega) _ (Ah x0 x1) s2w) ?_
 refine U8 ?_
 refine Q5 ?_
 refine Kl B18 (a15.len.trans (Db _)) ?_
 refine Nx (Nu (n + 25) (by omega)) (a25.vw (Ny _ _ (Gq 4 (Ah x0 x1)))) (Mt _ s2) (by omega) (by omega) ?_
 refine U7 ?_
 refine Q5 ?_
 rfl
end Go.Proofs.YtjiahcekpohehaaGreatDoor.Abs
namespace Go.Proofs.YtjiahcekpohehaaGreatDoor.fnExactConnNew
open Go Go.Shelf Go.Lib Go.ChangeShapes Go.WideShapes Go.ChangeAt Go.RowKit
open Go.Proofs.YtjiahcekpohehaaGreatDoor.Abs
set_option linter.unusedVariables false
theorem own : ownKnob Tryz.prog.godebug = none := by kernel_rfl
theorem Xu : laidOutB Tryz.prog = true := by kernel_rfl
theorem types : ([3, 3].all (Vx Ad 14)) = true := by kernel_rfl
theorem Vn : ([3, 3].all fun t => Tryz.prog.readableRec t && decide (t < Tryz.prog.types.size)) = true := by kernel_rfl
theorem AaT {xs : List AV} (h : Aan Ad 14 [3, 3] xs) : ∃ n, Bp E0 n 4 7 xs = some (.sc (.bool true)) := by
 obtain ⟨y0, ys0, rfl, ⟨cs0, h0, rfl⟩, h⟩ := h
 obtain ⟨y1, ys1, rfl, ⟨cs1, h1, rfl⟩, h⟩ := h
 obtain rfl := h
 obtain ⟨x0, rfl, k0⟩ := Nz h0
 obtain ⟨x1, rfl, k1⟩ := Nz h1
 exact ⟨_, Nw 1048577 (by omega) x0 x1 k0 k1⟩
def wArgs : Array Value := #[.int .i64 0, .int .i64 0]
noncomputable def Gm (os : Os) : World :=
 let w0 := World.holding Tryz.prog os ⟨#[], #[], []⟩
 let put (h : Array Obj) (g : Nat) (cs : Array Value) : Array Obj := h.modify g fun
  | .cells _ t frozen => .cells cs t frozen
  | o => o
 let h1 := put w0.heap 0 (Lib.firstTab.map fun z => Value.int .u8 z).toArray
 let h2 := put h1 1 ((List.range 16).flatMap fun i => [Value.int .u8 (Lib.accLo i), Value.int .u8 (Lib.accHi i)]).toArray
 { w0 with heap := h2 }
theorem U3 (os : Os) (args : Array Value) : laidMet Tryz.prog Rows.fnExactConnNewRow.laid ((Gm os).forCall (fun _ _ => 0) ⟨#[], args, []⟩).memory :=
 (LaidIn.of_run (l := Rows.fnExactConnNewRow.laid) [0, 1] 8 (by kernel_rfl) (by kernel_rfl) (by kernel_rfl) (by kernel_rfl)).met
set_option maxRecDepth 100000 in
theorem Oi (os : Os) {H : Type} (enc : TypeId × Value → H) :
  (OpenSpec.ofChange Rows.fnExactConnNewSpec).preRow enc Tryz.prog Tryz.f7 Rows.fnExactConnNewRow.domain false Rows.fnExactConnNewRow.laid ((Gm os).forCall (fun _ _ => 0) ⟨#[], wArgs, []⟩).memory wArgs := by
 have hw : ((DataW.whole enc Tryz.prog ((Gm os).forCall (fun _ _ => 0) ⟨#[], wArgs, []⟩).memory Tryz.f7.params.toList (OpenSpec.ofChange Rows.fnExactConnNewSpec).vars false wArgs.toList 8).map (fun x => x.2.1)) = some [] := by kernel_rfl
 obtain ⟨⟨x1, x2, x3⟩, hx, hx1⟩ := Option.map_eq_some_iff.1 hw
 simp only at hx1
 subst hx1
 exact OpenSpec.preRow_of_cond 8 hx rfl (fun k hk => by cases hk) rfl (U3 os _)
set_option maxRecDepth 100000 in
set_option maxHeartbeats 2000000 in
theorem lifted (os : Os) (started : os.Started) (H : Type) (enc : TypeId × Value → H) (F : Stop.Interp) :
  ReturnsInHanded {} Tryz.checked os 7 .any ((OpenSpec.ofChange Rows.fnExactConnNewSpec).preRow enc Tryz.prog Tryz.f7 Rows.fnExactConnNewRow.domain false Rows.fnExactConnNewRow.laid) (((OpenSpec.ofChange Rows.fnExactConnNewSpec).at F).post enc Tryz.prog Tryz.f7 false true false false) := by
 refine returnsInHanded_of_row (C := Tryz.checked) (s := OpenSpec.ofChange Rows.fnExactConnNewSpec) own started (by kernel_rfl) Tryz.func7
  (witness_row_atRef (enc := enc) (C := Tryz.checked) false (Gm os) wArgs rfl (by kernel_rfl) (by kernel_rfl) (by kernel_rfl) (Oi os enc)) ?_
 intro W base args ds gs before hval0 hW _ _ _ hL hS _
 have hval : ∀ (j : Nat) t v, Tryz.f7.params[j]? = some t → args[j]? = some v → Value.okWide Tryz.prog W .any base t v := hval0
 have hW' := hW
 obtain ⟨p, q, hA0, hV, rfl, hfz, hnd⟩ := hW
 have hA : DataW.TrodAll enc Tryz.prog W 0 (fun _ => true) true Tryz.f7.params.toList args.toList ds p := hA0
 rw [Tryz.params7] at hA hval
 obtain ⟨xs, hok, hl, hx⟩ := Jx Vu (n := 14) [3, 3] args.toList ds p hA (fun j t v ht hv => hval j t v (by simpa using ht) (by simpa using hv)) types
 obtain ⟨m, hm⟩ := AaT hok
 have htab0 := utf8Tabs_of_readsT (U8Types.of196 Tryz.laysValid) ⟨by kernel_rfl, by kernel_rfl, by kernel_rfl, by kernel_rfl, by kernel_rfl, by kernel_rfl, by kernel_rfl⟩ (Pinned.utf8First_eq ▸ Lib.laidMet.reads hL (.tail _ (.head _))) (Lib.laidMet.reads hL (.head _))
 have htab : J0 W := ⟨htab0, cell_of_shapedOpen_int (zero := #[.int .i64 0]) hS (of_decide_eq_true (by kernel_rfl)) (by kernel_rfl) rfl (by kernel_rfl) (by kernel_rfl) Tryz.underlying3⟩
 have hc := Ta Aby hm (w := W) htab hl hx
 have hA1 := hA
 obtain ⟨v0, vs0, d0, ds0, p0, q0, hargs, rfl, rfl, g0, r0⟩ := trodAll_cons hA
 obtain ⟨v1, vs1, d1, ds1, p1, q1, rfl, rfl, rfl, g1, r1⟩ := trodAll_cons r0
 obtain ⟨rfl, rfl, rfl⟩ := trodAll_nil r1
 obtain ⟨rfl, rfl⟩ := trodVars_none hV
 have hc2 : Calls Tryz.prog 7 args W fun e W' => e = .returned (.bool true) ∧ Below W.heap.size W W' := by simpa using hc
 refine hc2.mono fun e W' ⟨he, bel⟩ => ?_
 subst he
 exact ⟨_, rfl, _, _, _, [], _, [], hW', trodAll_mk1 (shut_bool Tryz.underlying4 _), G2 Xu bel Vn hA1, rfl, bel.frame _, fun h => by cases h⟩
end Go.Proofs.YtjiahcekpohehaaGreatDoor.fnExactConnNew
