/- What the proof needs, part 6: a sound evaluator over trees, the program's functions on it, and what they come to. -/
import Derived.Test.YtlcpigdmekgajaaGreatDoorMfe
import Derived.Test.YtlcpigdmekgajaaGreatDoorRows
import Derived.Test.YtlcpigdmekgajaaGreatDoorTie
import Derived.Test.YtlcpigdmekgajaaGreatDoorCards
import Derived.Lib.LaidIn
import Derived.Lib.LaidU8T
import Derived.PinnedBridge
import Derived.SevenTiedAt
import Derived.Deep.DeepHandedRow
import Derived.Deep.DeepWitnessRowRef
import Derived.WalkKit
import Derived.ProofKit
import Derived.OpenShut
import Derived.ShutString
import Derived.ChangeOld
import Derived.Below
import Derived.SizedLaws
set_option linter.unusedVariables false
set_option linter.unusedSimpArgs false
namespace Go.Proofs.YtlcpigdmekgajaaGreatDoor.Abs
open _root_.Bool renaming false_eq_true → zaa, and_eq_true → zag, not_true → zau, not_false → zaw, true_and → za2, false_and → za4, and_true → za6, or_eq_true → zaK, and_false → zaL
open _root_.Option renaming bind_some → zad, getD_some → zaG
open _root_.List renaming getElem?_eq_some_iff → zac, length_append → zae, append_assoc → zaf, nil_append → zai, getElem?_append_right → zaj, getElem?_append_left → zal, append_nil → zam, length_cons → zan, cons_append → zaq, length_singleton → zas, map_cons → zat, mem_cons_of_mem → zav, all_cons → zaz, mem_cons_self → za1, flatten_cons → za3, getElem?_eq_getElem → zaS, take_append_drop → zaV, getElem?_drop → zba, length_take → zbc, drop_of_length_le → zbm, drop_drop → zbq, getElem?_take_of_lt → zbt
open _root_.ByteArray renaming size_append → zah, size_extract → zap, size → zbx
open _root_.Nat renaming le_refl → zao, zero_le → zay, le_trans → zaA, add_assoc → zaH, add_zero → zaR, succ_mul → zb3
section
open Go
def AtT (H : Ab) (y : AV) (N ty : Nat) (t : AV) : Prop := y = (Bk Ak E0.tp N ty t).1 ∧ N + G3 t ≤ H.length ∧ Lies H N (Bk Ak E0.tp N ty t).2
def AtL (H : Ab) (ys : List AV) (N : Nat) (ts : List Nat) (cs : List AV) : Prop := ys = (Ap Ak E0.tp N ts cs).1 ∧ N + En cs ≤ H.length ∧ Lies H N (Ap Ak E0.tp N ts cs).2
def AbX (H H' : Ab) (N m : Nat) : Prop := H.length ≤ H'.length ∧ ∀ (i : Nat) b, H[i]? = some b → (i < N ∨ N + m ≤ i) → H'[i]? = some b
theorem Lies.grow {H : Ab} {N : Nat} {B : List Iu} (h : Lies H N B) (X : List Iu) : Lies (H ++ X) N B := fun j b hj => by
 have := h j b hj
 rw [zal (zac.1 this).1]
 exact this
theorem Lies.kept {H H' : Ab} {N M m : Nat} {B : List Iu} (h : Lies H N B) (k : AbX H H' M m) (hd : N + B.length ≤ M ∨ M + m ≤ N) : Lies H' N B := fun j b hj => by
 have hlt := (zac.1 hj).1
 exact k.2 _ b (h j b hj) (by omega)
theorem AtT.grow {H : Ab} {y : AV} {N ty : Nat} {t : AV} (h : AtT H y N ty t) (X : List Iu) : AtT (H ++ X) y N ty t := ⟨h.1, by rw [zae]; have := h.2.1; omega, h.2.2.grow X⟩
theorem AtL.grow {H : Ab} {ys : List AV} {N : Nat} {ts : List Nat} {cs : List AV} (h : AtL H ys N ts cs) (X : List Iu) : AtL (H ++ X) ys N ts cs := ⟨h.1, by rw [zae]; have := h.2.1; omega, h.2.2.grow X⟩
theorem AtT.kept {H H' : Ab} {y : AV} {N ty M m : Nat} {t : AV} (h : AtT H y N ty t) (k : AbX H H' M m) (hd : N + G3 t ≤ M ∨ M + m ≤ N) : AtT H' y N ty t := ⟨h.1, zaA h.2.1 k.1, h.2.2.kept k (by rw [I7]; exact hd)⟩
theorem AtL.kept {H H' : Ab} {ys : List AV} {N M m : Nat} {ts : List Nat} {cs : List AV} (h : AtL H ys N ts cs) (k : AbX H H' M m) (hd : N + En cs ≤ M ∨ M + m ≤ N) : AtL H' ys N ts cs := ⟨h.1, zaA h.2.1 k.1, h.2.2.kept k (by rw [D2]; exact hd)⟩
theorem Hm {H H' : Ab} {i M m : Nat} {b : Iu} (h : H[i]? = some b) (k : AbX H H' M m) (hd : i < M ∨ M + m ≤ i) : H'[i]? = some b := k.2 i b h hd
theorem AtL.cons {H : Ab} {ys : List AV} {N t : Nat} {ts : List Nat} {c : AV} {cs : List AV} (h : AtL H ys N (t :: ts) (c :: cs)) : ∃ y ys', ys = y :: ys' ∧ AtT H y N t c ∧ AtL H ys' (N + G3 c) ts cs := by
 obtain ⟨h1, h2, h3⟩ := h
 have h2 : N + (G3 c + En cs) ≤ H.length := h2
 have e : Ap Ak E0.tp N (t :: ts) (c :: cs) = ((Bk Ak E0.tp N t c).1 :: (Ap Ak E0.tp (N + G3 c) ts cs).1, (Bk Ak E0.tp N t c).2 ++ (Ap Ak E0.tp (N + G3 c) ts cs).2) := by
  rw [Ap, I7]
  rfl
 rw [e] at h1 h3
 refine ⟨_, _, h1, ⟨rfl, by omega, h3.left⟩, ⟨rfl, by omega, ?_⟩⟩
 have := h3.right
 rwa [I7] at this
theorem AtL.nil {H : Ab} {ys : List AV} {N : Nat} {ts : List Nat} (h : AtL H ys N ts []) : ys = [] := h.1
theorem AtT.sc {H : Ab} {y : AV} {N ty : Nat} {v : Value} (h : AtT H y N ty (.sc v)) : y = .sc v := h.1
theorem AtT.agg {H : Ab} {y : AV} {N ty : Nat} {cs : List AV} {cty : List Nat} (h : AtT H y N ty (.agg cs)) (hty : ∃ i, Ak ty = some i ∧ i.cty = cty) : ∃ ys, y = .agg ys ∧ AtL H ys N cty cs := by
 obtain ⟨i, hi, rfl⟩ := hty
 obtain ⟨h1, h2, h3⟩ := h
 rw [Ke, hi, zaG] at h1 h3
 exact ⟨_, h1, rfl, h2, h3⟩
theorem AtT.vw {H : Ab} {y : AV} {N ty : Nat} {t : AV} (h : AtT H y N ty t) (hok : Hq Ak E0.tp 8 ty t) : Vw H y t := fun X => by
 rw [h.1]
 exact T5 8 ty t N (P8 8 ty t hok) (h.2.2.grow X)
theorem AtL.vw {H : Ab} {ys : List AV} {N : Nat} {ts : List Nat} {cs : List AV} (h : AtL H ys N ts cs) (hok : Fv (Hq Ak E0.tp 7) ts cs) : Vw H (.agg ys) (.agg cs) := fun X => by
 rw [h.1, N2, Rv (fun ty t N => T5 7 ty t N) cs ts N (P7 (P8 7) hok) (h.2.2.grow X)]
 rfl
theorem AtL.leaf {H : Ab} {ys : List AV} {N : Nat} {ts : List Nat} {cs : List AV} (h : AtL H ys N ts cs) (hf : cs.all Lh = true) : ys.all A2 = true := by
 rw [h.1]
 exact Ou _ _ _ hf
theorem AtL.len {H : Ab} {ys : List AV} {N : Nat} {ts : List Nat} {cs : List AV} (h : AtL H ys N ts cs) : ys.length = cs.length := by rw [h.1, Hv]
theorem Aaz {d : Nat} (hd : ∀ ty x f k, Hq Ak E0.tp d ty x → Hq Ak E0.tp d ty (H4 f k x).1) : ∀ (cs : List AV) (ts : List Nat) (fs : List MF) (k : Int), Fv (Hq Ak E0.tp d) ts cs → Fv (Hq Ak E0.tp d) ts (Fz fs k cs).1
 | [], ts, fs, k, h => by simpa [Fz] using h
 | c :: cs, [], fs, k, h => h.elim
 | c :: cs, t :: ts, fs, k, h => ⟨hd _ _ _ _ h.1, Aaz hd cs ts fs.tail _ h.2⟩
theorem Aa1 : ∀ (d ty : Nat) (x : AV) (f : MF) (k : Int), Hq Ak E0.tp d ty x → Hq Ak E0.tp d ty (H4 f k x).1
 | 0, _, _, _, _, h => h
 | d + 1, ty, x, f, k, h => by
  cases x with
  | sc v => cases f <;> trivial
  | ro n cells =>
   cases f with
   | sub fs =>
    obtain ⟨i, j, h1, h2, h3, h4⟩ := h
    exact ⟨i, j, h1, h2, by rw [Qv]; exact h3, Aaz (Aa1 d) _ _ _ _ h4⟩
   | _ => exact h
  | _ => exact h
theorem Ab3 {cs : List AV} {ts : List Nat} (fs : List MF) (k : Int) (h : Fv (Hq Ak E0.tp 7) ts cs) : Fv (Hq Ak E0.tp 7) ts (Fz fs k cs).1 := Aaz (Aa1 7) cs ts fs k h
section steps
variable {β : Type} {n : Nat} {H : Ab} {r : Option β}
theorem Vf {ty f : Nat} {args vs : List AV} {t : AV} {K : KO β} (hh : Ek f = false) (hv : args.mapM (C5 H 8) = some vs) (ht : Cb E0 n ty f vs = some t) (h : ∀ y X N, N = H.length → AtT (H ++ X) y N ty t → K y (H ++ X) = r) : (PR n β).call ty (.fn f [] []) args H (fun x H => K x H) = r := by
 rw [Ha hh hv ht]
 exact h _ _ _ rfl ⟨rfl, by rw [zae, I7]; exact zao _, Pb _ _⟩
theorem AcJ {ty f : Nat} {args vs cs : List AV} {ts : List Nat} {K : KO β} (hh : Ek f = false) (hv : args.mapM (C5 H 8) = some vs) (ht : Cb E0 n ty f vs = some (.tup cs)) (hts : E0.tp ty = some ts) (h : ∀ ys X N, N = H.length → AtL (H ++ X) ys N ts cs → K (.tup ys) (H ++ X) = r) : (PR n β).call ty (.fn f [] []) args H (fun x H => K x H) = r := by
 rw [Ha hh hv ht, Tk, hts, zaG]
 exact h _ _ _ rfl ⟨rfl, by rw [zae, D2]; exact zao _, Pb _ _⟩
theorem Aav {ty f : Nat} {args vs cs : List AV} {cty : List Nat} {K : KO β} (hh : Ek f = false) (hv : args.mapM (C5 H 8) = some vs) (ht : Cb E0 n ty f vs = some (.agg cs)) (hty : ∃ i, Ak ty = some i ∧ i.cty = cty) (h : ∀ ys X N, N = H.length → AtL (H ++ X) ys N cty cs → K (.agg ys) (H ++ X) = r) : (PR n β).call ty (.fn f [] []) args H (fun x H => K x H) = r := by
 obtain ⟨i, hi, rfl⟩ := hty
 rw [Ha hh hv ht, Ke, hi, zaG]
 exact h _ _ _ rfl ⟨rfl, by rw [zae, D2]; exact zao _, Pb _ _⟩
theorem Aaw {w : Nat} {z ys : List AV} {K : KO β} (hz : z.length = w) (hy : ys.length = w) (hl : ys.all A2 = true) (h : ∀ i, i = H.length → (H ++ [⟨ys, true, true⟩])[i]? = some ⟨ys, true, true⟩ → K (.ptr i 0) (H ++ [⟨ys, true, true⟩]) = r) :
  Xw z H (fun t H => Ej w t (.agg ys) H fun H => K t H) = r := by
 have hg : (H ++ [(⟨z, true, true⟩ : Iu)])[H.length]? = some ⟨z, true, true⟩ := Ti H _ []
 have hc : Ev (.agg ys) = some ys := by
  show (if ys.all A2 then some ys else none) = _
  rw [if_pos hl]
 show Ej w (.ptr H.length 0) (.agg ys) (H ++ [⟨z, true, true⟩]) _ = r
 rw [Zz w H.length 0 _ ⟨z, true, true⟩ ys _ _ hg hc hy (by rw [hz]; omega) rfl]
 have hs : Fh z 0 ys = ys := by
  unfold Fh
  rw [List.take_zero, zai, zbm (by rw [hz, hy]; omega), zam]
 simp only [hs, AiJ]
 exact h _ rfl (Ti H _ [])
theorem Agf {N : Nat} {B : List Iu} (h1 : N + B.length ≤ H.length) (h2 : Lies H N B) : ∃ A C : Ab, A.length = N ∧ H = A ++ (B ++ C) := by
 refine ⟨H.take N, H.drop (N + B.length), by rw [zbc]; omega, ?_⟩
 have e : (H.drop N).take B.length = B := by
  apply List.ext_getElem?
  intro j
  by_cases hj : j < B.length
  ·rw [zbt hj, zba]
   have hb : B[j]? = some (B[j]) := zaS hj
   rw [hb, h2 j _ hb]
  ·rw [List.getElem?_eq_none (by rw [zbc]; omega), List.getElem?_eq_none (by omega)]
 conv => lhs; rw [← zaV N H, ← zaV B.length (H.drop N), e, zbq]
theorem AdH {A B B' C X : Ab} (hl : B'.length = B.length) : AbX (A ++ (B ++ C)) (A ++ (B' ++ (C ++ X))) A.length B.length := by
 refine ⟨by simp only [zae, hl]; omega, fun i b h hd => ?_⟩
 rcases hd with hd | hd
 ·rw [zal hd] at h ⊢
  exact h
 ·rw [zaj (by omega), zaj (by omega)] at h ⊢
  rw [hl, zal (zac.1 h).1]
  exact h
theorem AdL {tI g ty N : Nat} {fs : List MF} {t : AV} {y : AV} {k : Int} {K : KO β} (hmk : M4 n g ty fs) (hro : ∃ len cells, t = .ro len cells) (ha : AtT H y N ty t) (hw : wfF (.sub fs) t) (h0 : 0 ≤ k) (hb : k + F4 (.sub fs) t ≤ 4611686018427387904)
  (h : ∀ H', AtT H' y N ty (H4 (.sub fs) k t).1 → AbX H H' N (G3 t) → K (.sc (.int .i64 (k + F4 (.sub fs) t))) H' = r) : (PR n β).call tI (.fn g [] []) [y, .sc (.int .i64 k)] H (fun x H => K x H) = r := by
 obtain ⟨len, cells, rfl⟩ := hro
 obtain ⟨rfl, h2, h3⟩ := ha
 have hnb : ∀ M, (Bk Ak E0.tp M ty (.ro len cells)).2.length = G3 (.ro len cells) := fun M => I7 _ _ _
 obtain ⟨A, C, rfl, rfl⟩ := Agf (by rw [hnb]; exact h2) h3
 rw [AaH hmk.1 hmk.2.1]
 refine hmk.2.2.2 len cells k hw h0 hb β A C _ r fun X => ?_
 rw [Ox]
 have hl : (Bk Ak E0.tp A.length ty (H4 (.sub fs) k (.ro len cells)).1).2.length = (Bk Ak E0.tp A.length ty (.ro len cells)).2.length := by rw [I7, I7, Mb]
 refine h _ ⟨(Xd hmk k len cells A.length).symm, ?_, ?_⟩ ?_
 ·rw [Mb]
  simp only [zae, I7, Mb]
  omega
 ·have := Z3 A (Bk Ak E0.tp A.length ty (H4 (.sub fs) k (.ro len cells)).1).2 (C ++ X)
  rwa [zaf] at this
 ·rw [← hnb A.length]
  exact AdH hl
theorem Abx {tI g N : Nat} {cty : List Nat} {fs : List MF} {cs ys : List AV} {k : Int} {K : KO β} (hmk : Adf n g cty fs) (hv : fs.all isV = true) (ha : AtL H ys N cty cs) (hw : N6 fs cs) (h0 : 0 ≤ k) (hb : k + E4 fs cs ≤ 4611686018427387904)
  (h : ∀ H', AtL H' ys N cty (Fz fs k cs).1 → AbX H H' N (En cs) → K (.sc (.int .i64 (k + E4 fs cs))) H' = r) : (PR n β).call tI (.fn g [] []) [.agg ys, .sc (.int .i64 k)] H (fun x H => K x H) = r := by
 obtain ⟨rfl, h2, h3⟩ := ha
 have hnb : ∀ M, (Ap Ak E0.tp M cty cs).2.length = En cs := fun M => D2 _ _ _
 obtain ⟨A, C, rfl, rfl⟩ := Agf (by rw [hnb]; exact h2) h3
 rw [AaH hmk.1 hmk.2.1]
 refine hmk.2.2 cs k β A C _ r hw h0 hb fun X => ?_
 rw [M0]
 have hl : (Ap Ak E0.tp A.length cty (Fz fs k cs).1).2.length = (Ap Ak E0.tp A.length cty cs).2.length := by rw [D2, D2, Md]
 refine h _ ⟨(Xc cs fs k A.length cty hv hw).symm, ?_, ?_⟩ ?_
 ·rw [Md]
  simp only [zae, D2, Md]
  omega
 ·have := Z3 A (Ap Ak E0.tp A.length cty (Fz fs k cs).1).2 (C ++ X)
  rwa [zaf] at this
 ·rw [← hnb A.length]
  exact AdH hl
theorem AdK {tI g : Nat} {fs : List MF} {t : AV} {y : AV} {k : Int} {K : KO β} (hhe : N9 n g fs) (hro : ∃ len cells, t = .ro len cells) (hv : Vw H y (H4 (.sub fs) k t).1) (hw : wfF (.sub fs) t) (h0 : 0 ≤ k) (hb : k + F4 (.sub fs) t ≤ 4611686018427387904)
  {F : Ab → Option β} (h : K (.sc (.int .i64 (k + F4 (.sub fs) t))) H = r) : (PR n β).call tI (.fn g [] []) [y, .sc (.int .i64 k)] H (fun t H => Bz .lss t (.sc (.int .i64 0)) fun t' => C8 t' (F H) (K t H)) = r := by
 obtain ⟨len, cells, rfl⟩ := hro
 refine Ma hhe.1 (Co hv (Co (Iv _ _) G7)) (hhe.2 tI len cells k hw h0 hb) ?_
 rw [Ox, Ns, C1, if_neg (by simp; omega)]
 exact h
theorem Abw {tI g : Nat} {fs : List MF} {cs : List AV} {y : AV} {k : Int} {K : KO β} (hhe : Ade n g fs) (hv : Vw H y (.agg (Fz fs k cs).1)) (hw : N6 fs cs) (h0 : 0 ≤ k) (hb : k + E4 fs cs ≤ 4611686018427387904)
  {F : Ab → Option β} (h : K (.sc (.int .i64 (k + E4 fs cs))) H = r) : (PR n β).call tI (.fn g [] []) [y, .sc (.int .i64 k)] H (fun t H => Bz .lss t (.sc (.int .i64 0)) fun t' => C8 t' (F H) (K t H)) = r := by
 refine Ma hhe.1 (Co hv (Co (Iv _ _) G7)) (hhe.2 tI cs k hw h0 hb) ?_
 rw [M0, Ns, C1, if_neg (by simp; omega)]
 exact h
theorem K6 {m : (KO β) → Option β} {k : KO β} (h : m k = r) : Fg (.sc (.bool false)) false H m k = r := h
theorem AdM {v : Value} {K : AV → Option β} (h : K (.sc v) = r) : M1 (.sc (.bool false)) (.sc (.bool true)) (.sc v) (fun t => K t) = r := h
theorem P4 {b : Bool} {K : AV → Option β} (h : K (.sc (.bool (!b))) = r) : pUn .not (.sc (.bool b)) (fun t => K t) = r := h
theorem W8 {A K : Option β} (h : K = r) : C8 (.sc (.bool false)) A K = r := h
theorem Un {ty f : Nat} {args vs : List AV} {K : KO β} (hh : Ek f = false) (hv : args.mapM (C5 H 8) = some vs) (ht : Cb E0 n ty f vs = some (.sc (.bool true))) (h : K (.sc (.bool true)) H = r) : (PR n β).call ty (.fn f [] []) args H (fun t H => K t H) = r := Ma hh hv ht h
theorem Aiw {z : Int} {K : AV → Option β} (h : K (.sc (.bool false)) = r) : Bz .neq (.sc (.int .i64 z)) (.sc (.int .i64 z)) (fun t => K t) = r := by
 rw [Ama, bne_self_eq_false]
 exact h
theorem AnC {z : Int} {K : AV → Option β} (h0 : 0 ≤ z) (h : K (.sc (.bool false)) = r) : Bz .lss (.sc (.int .i64 z)) (.sc (.int .i64 0)) (fun t => K t) = r := by
 rw [Ns, show decide (z < 0) = false from by simp; omega]
 exact h
theorem Zl {vs : List AV} {i : Nat} {v : AV} {K : AV → Option β} (hi : vs[i]? = some v) (h : K v = r) : Sw (.tup vs) i (fun t => K t) = r := by
 simp only [Sw, hi, zad]
 exact h
end steps
end
set_option maxRecDepth 100000
section
open Go
variable {α : Type}
theorem Ajd : ∀ (cs : List AV) (fs : List MF), N6 fs cs → fs.all isV = true → cs.all Lh = true
 | [], fs, _, _ => rfl
 | c :: cs, [], hw, _ => absurd rfl hw.1
 | c :: cs, f :: fs, hw, hv => by
  obtain ⟨h1, h2⟩ := wfL_cons.1 hw
  rw [zaz, zag] at hv
  rw [zaz, Ajd cs fs h2 hv.2, za6]
  cases c with
  | sc v => cases f <;> first | exact h1 | (exfalso; simpa [isV] using hv.1) | exact h1.elim
  | ro m cells => cases f <;> first | rfl | exact h1.elim
  | _ => exact h1.elim
theorem Fl {f : MF} {fs : List MF} {c : AV} {cs : List AV} {a b : Nat} (h1 : F4 f c = a) (h2 : E4 fs cs = b) : E4 (f :: fs) (c :: cs) = a + b := by
 subst h1
 subst h2
 rfl
theorem Na (n : Nat) (hn : 1048576 < n) : Rx (n + 1) 9 53 := AnV (n := n) rfl hn (fun kk => Wi (PR n AV) n kk) (fun kk m k s H => rfl) (fun a H kk => AmO n a H kk)
def fdByteS : List FD := [⟨.byt, [], 0⟩]
def Fc : List MF := fdByteS.map FD.f
theorem P5 (n : Nat) (hn : 1048576 < n) : M4 (n + 2) 36 22 Fc :=
 So (n := n + 1) (tI := 3) (w := 1) (cty := [5]) (fds := fdByteS) rfl rfl (Na n hn) ⟨rfl, trivial, trivial⟩ rfl ⟨_, _, rfl, rfl, rfl, rfl⟩ (by omega) (fun β kk => Wh (PR (n + 1) β) (n + 1) kk) (fun β kk m a k i H => rfl) (fun β a b H kk => AmI (n + 1) a b H kk)
theorem Sg (n : Nat) (hn : 1048576 < n) : N9 (n + 2) 57 Fc :=
 Sh (n := n + 1) (tI := 3) (w := 1) (fds := fdByteS) rfl (Na n hn) ⟨rfl, trivial, trivial⟩ rfl (by decide) (by omega) (fun kk => Wm (PR (n + 1) AV) (n + 1) kk) (fun kk m a k i H => rfl) (fun a b H kk => AmS (n + 1) a b H kk)
def fdIntS : List FD := [⟨.int, [], 0⟩]
def Ow : List MF := fdIntS.map FD.f
theorem AkQ (n : Nat) (hn : 1048576 < n) : M4 (n + 2) 56 57 Ow :=
 So (n := n + 1) (tI := 3) (w := 1) (cty := [3]) (fds := fdIntS) rfl rfl (Na n hn) ⟨rfl, trivial, trivial⟩ rfl ⟨_, _, rfl, rfl, rfl, rfl⟩ (by omega) (fun β kk => Wl (PR (n + 1) β) (n + 1) kk) (fun β kk m a k i H => rfl) (fun β a b H kk => AmR (n + 1) a b H kk)
theorem Ak9 (n : Nat) (hn : 1048576 < n) : N9 (n + 2) 60 Ow :=
 Sh (n := n + 1) (tI := 3) (w := 1) (fds := fdIntS) rfl (Na n hn) ⟨rfl, trivial, trivial⟩ rfl (by decide) (by omega) (fun kk => Wp (PR (n + 1) AV) (n + 1) kk) (fun kk m a k i H => rfl) (fun a b H kk => AmV (n + 1) a b H kk)
def fdStringS : List FD := [⟨.str, [], 0⟩]
def Ii : List MF := fdStringS.map FD.f
theorem AcN (n : Nat) (hn : 1048576 < n) : M4 (n + 2) 55 56 Ii :=
 So (n := n + 1) (tI := 3) (w := 1) (cty := [9]) (fds := fdStringS) rfl rfl (Na n hn) ⟨rfl, trivial, trivial⟩ rfl ⟨_, _, rfl, rfl, rfl, rfl⟩ (by omega) (fun β kk => Wk (PR (n + 1) β) (n + 1) kk) (fun β kk m a k i H => rfl) (fun β a b H kk => AmQ (n + 1) a b H kk)
theorem AcC (n : Nat) (hn : 1048576 < n) : N9 (n + 2) 59 Ii :=
 Sh (n := n + 1) (tI := 3) (w := 1) (fds := fdStringS) rfl (Na n hn) ⟨rfl, trivial, trivial⟩ rfl (by decide) (by omega) (fun kk => Wo (PR (n + 1) AV) (n + 1) kk) (fun kk m a k i H => rfl) (fun a b H kk => AmU (n + 1) a b H kk)
theorem Qi (s : ByteArray) (h : s.size ≤ 1048576) : wfF (.sub Fc) (Ae s) := by
 refine ⟨h, by rw [Es]; show _ = s.size * 1; omega, ?_⟩
 have key : ∀ l : List UInt8, N6 (Ix l.length Fc) (l.map fun b => .sc (.int .u8 b.toNat)) := by
  intro l
  induction l with
  | nil => rfl
  | cons b l ih =>
   rw [zan, Jl, zat]
   exact wfL_cons.2 ⟨trivial, ih⟩
 have := key s.data.toList
 rwa [show s.data.toList.length = s.size by simp] at this
theorem R5 (f : MF) (e : α → Value) (h : ∀ x, F4 f (.sc (e x)) = 1) : ∀ l : List α, E4 (Ix l.length [f]) (l.map fun x => .sc (e x)) = l.length
 | [] => rfl
 | x :: l => by
  rw [zan, Jl, zat]
  show F4 f (.sc (e x)) + E4 (Ix l.length [f]) _ = _
  rw [h, R5 f e h l]
  omega
theorem Nn (s : ByteArray) : F4 (.sub Fc) (Ae s) = s.size := by
 have := R5 .byt (fun b : UInt8 => .int .u8 b.toNat) (fun _ => rfl) s.data.toList
 rw [show s.data.toList.length = s.size by simp] at this
 exact this
theorem Aly (l : List Int) (h : l.length ≤ 1048576) : wfF (.sub Ow) (Ey l) := by
 refine ⟨h, by simp [Ow, fdIntS], ?_⟩
 clear h
 induction l with
 | nil => rfl
 | cons b l ih =>
  rw [zan, Jl, zat]
  exact wfL_cons.2 ⟨trivial, ih⟩
theorem Agc (l : List Int) : F4 (.sub Ow) (Ey l) = l.length := R5 .int (fun z : Int => .int .i64 z) (fun _ => rfl) l
theorem Alz (l : List ByteArray) (h : l.length ≤ 1048576) : wfF (.sub Ii) (Et l) := by
 refine ⟨h, by simp [Ii, fdStringS], ?_⟩
 clear h
 induction l with
 | nil => rfl
 | cons b l ih =>
  rw [zan, Jl, zat]
  exact wfL_cons.2 ⟨trivial, ih⟩
theorem Agd (l : List ByteArray) : F4 (.sub Ii) (Et l) = l.length := R5 .str (fun z : ByteArray => .string z) (fun _ => rfl) l
theorem App {wt : α → Nat} (sm : α → Prop) (hs : ∀ x, wt x ≤ 1048576 → sm x) (l : List α) (h : Pa wt l ≤ 1048576) : l.length ≤ 1048576 ∧ ∀ y ∈ l, sm y := by
 have h1 := Qj wt l
 refine ⟨by omega, fun y hy => hs y ?_⟩
 have h2 := Vm (wt := wt) hy
 omega
theorem Vl {enc : α → List AV} {fs : List MF} (l : List α) (h : l.length ≤ 1048576) (hw : ∀ x ∈ l, N6 fs (enc x)) : wfF (.sub fs) (Bl enc l) := by
 have key : ∀ l : List α, (∀ x ∈ l, N6 fs (enc x)) → (l.map enc).flatten.length = l.length * fs.length ∧ N6 (Ix l.length fs) (l.map enc).flatten := by
  intro l
  induction l with
  | nil => intro _; exact ⟨by simp, rfl⟩
  | cons x l ih =>
   intro hw
   obtain ⟨h1, h2⟩ := ih fun y hy => hw y (zav _ hy)
   have hx := hw x za1
   have hl := M2 hx
   rw [zat, za3, zan, Jl]
   exact ⟨by rw [zae, h1, ← hl, zb3]; omega, (Kg hl).2 ⟨hx, h2⟩⟩
 obtain ⟨h1, h2⟩ := key l hw
 exact ⟨h, h1, h2⟩
theorem Vz {enc : α → List AV} {fs : List MF} {wt : α → Nat} : ∀ (l : List α), (∀ x ∈ l, fs.length = (enc x).length) → (∀ x ∈ l, E4 fs (enc x) ≤ 64 * (1 + wt x)) → F4 (.sub fs) (Bl enc l) ≤ 64 * Pa wt l
 | [], _, _ => zay _
 | x :: l, hl, h => by
  have ih := Vz l (fun y hy => hl y (zav _ hy)) (fun y hy => h y (zav _ hy))
  have hx := h x za1
  show E4 (Ix (l.length + 1) fs) (enc x ++ (l.map enc).flatten) ≤ _
  rw [Jl, Jh _ _ _ _ (hl x za1), Pa]
  have ih : E4 (Ix l.length fs) (l.map enc).flatten ≤ 64 * Pa wt l := ih
  omega
def fdWantS : List FD := [⟨.str, [0], 0⟩, ⟨.int, [1], 0⟩]
def Akv : List FD := [⟨.str, [0], 0⟩, ⟨.int, [1], 0⟩]
def Li : List MF := fdWantS.map FD.f
def Aa9 (x : WantV) : Prop := True
theorem Ai2 (n : Nat) (hn : 1048576 < n) : M4 (n + 2) 54 55 Li :=
 So (n := n + 1) (tI := 3) (w := 2) (cty := Aac) (fds := fdWantS) rfl rfl (Na (n + 0) (by omega)) ⟨rfl, trivial, ⟨rfl, trivial, trivial⟩⟩ rfl ⟨_, _, rfl, rfl, rfl, rfl⟩ (by omega) (fun β kk => Wj (PR (n + 1) β) (n + 1) kk) (fun β kk m a k i H => rfl) (fun β a b H kk => AmP (n + 1) a b H kk)
theorem Aig (n : Nat) (hn : 1048576 < n) : N9 (n + 2) 58 Li :=
 Sh (n := n + 1) (tI := 3) (w := 2) (fds := Akv) rfl (Na (n + 0) (by omega)) ⟨rfl, trivial, ⟨rfl, trivial, trivial⟩⟩ rfl (by decide) (by omega) (fun kk => Wn (PR (n + 1) AV) (n + 1) kk) (fun kk m a k i H => rfl) (fun a b H kk => AmT (n + 1) a b H kk)
theorem Alm (x : WantV) (h : It x ≤ 1048576) : Aa9 x := by
 have h0 := h
 unfold It at h0
 exact trivial
theorem AnW (x : WantV) (h : Aa9 x) : N6 Li (Bu x) := by
 exact wfL_cons.2 ⟨trivial, wfL_cons.2 ⟨trivial, rfl⟩⟩
theorem Ajo (x : WantV) : E4 Li (Bu x) ≤ 64 * (1 + It x) := by
 show 1 + (1 + 0) ≤ _
 unfold It
 omega
def fdPacketS : List FD := [⟨.int, [0], 0⟩, ⟨.bool, [1], 0⟩, ⟨.int, [2], 0⟩, ⟨.bool, [3], 0⟩, ⟨.int, [4], 0⟩, ⟨.str, [5], 0⟩, ⟨.sub Fc, [6], 36⟩, ⟨.str, [7], 0⟩, ⟨.int, [8], 0⟩, ⟨.bool, [9], 0⟩, ⟨.int, [10], 0⟩, ⟨.bool, [11], 0⟩, ⟨.str, [12], 0⟩, ⟨.sub Fc, [13], 36⟩, ⟨.int, [14], 0⟩, ⟨.bool, [15], 0⟩, ⟨.bool, [16], 0⟩, ⟨.str, [17], 0⟩, ⟨.bool, [18], 0⟩, ⟨.sub Fc, [19], 36⟩, ⟨.int, [20], 0⟩, ⟨.bool, [21], 0⟩, ⟨.sub Li, [22], 54⟩, ⟨.sub Ii, [23], 55⟩, ⟨.sub Ow, [24], 56⟩]
def Afv : List FD := [⟨.int, [0], 0⟩, ⟨.bool, [1], 0⟩, ⟨.int, [2], 0⟩, ⟨.bool, [3], 0⟩, ⟨.int, [4], 0⟩, ⟨.str, [5], 0⟩, ⟨.sub Fc, [6], 57⟩, ⟨.str, [7], 0⟩, ⟨.int, [8], 0⟩, ⟨.bool, [9], 0⟩, ⟨.int, [10], 0⟩, ⟨.bool, [11], 0⟩, ⟨.str, [12], 0⟩, ⟨.sub Fc, [13], 57⟩, ⟨.int, [14], 0⟩, ⟨.bool, [15], 0⟩, ⟨.bool, [16], 0⟩, ⟨.str, [17], 0⟩, ⟨.bool, [18], 0⟩, ⟨.sub Fc, [19], 57⟩, ⟨.int, [20], 0⟩, ⟨.bool, [21], 0⟩, ⟨.sub Li, [22], 58⟩, ⟨.sub Ii, [23], 59⟩, ⟨.sub Ow, [24], 60⟩]
def Ih : List MF := fdPacketS.map FD.f
def S2 (x : PacketV) : Prop := x.fBody.size ≤ 1048576 ∧ x.fWBody.size ≤ 1048576 ∧ x.fPass.size ≤ 1048576 ∧ (x.fWants.length ≤ 1048576 ∧ ∀ y ∈ x.fWants, Aa9 y) ∧ x.fNames.length ≤ 1048576 ∧ x.fCodes.length ≤ 1048576 ∧ True
theorem AcM (n : Nat) (hn : 1048576 < n) : M4 (n + 3) 26 33 Ih :=
 So (n := n + 2) (tI := 3) (w := 25) (cty := Qm) (fds := fdPacketS) rfl rfl (Na (n + 1) (by omega)) ⟨rfl, trivial, ⟨rfl, trivial, ⟨rfl, trivial, ⟨rfl, trivial, ⟨rfl, trivial, ⟨rfl, trivial, ⟨rfl, P5 (n + 0) (by omega), ⟨rfl, trivial, ⟨rfl, trivial, ⟨rfl, trivial, ⟨rfl, trivial, ⟨rfl, trivial, ⟨rfl, trivial, ⟨rfl, P5 (n + 0) (by omega), ⟨rfl, trivial, ⟨rfl, trivial, ⟨rfl, trivial, ⟨rfl, trivial, ⟨rfl, trivial, ⟨rfl, P5 (n + 0) (by omega), ⟨rfl, trivial, ⟨rfl, trivial, ⟨rfl, Ai2 (n + 0) (by omega), ⟨rfl, AcN (n + 0) (by omega), ⟨rfl, AkQ (n + 0) (by omega), trivial⟩⟩⟩⟩⟩⟩⟩⟩⟩⟩⟩⟩⟩⟩⟩⟩⟩⟩⟩⟩⟩⟩⟩⟩⟩ rfl ⟨_, _, rfl, rfl, rfl, rfl⟩ (by omega) (fun β kk => Wd (PR (n + 2) β) (n + 2) kk) (fun β kk m a k i H => rfl) (fun β a b H kk => Am8 (n + 2) a b H kk)
theorem Wz (n : Nat) (hn : 1048576 < n) : N9 (n + 3) 28 Ih :=
 Sh (n := n + 2) (tI := 3) (w := 25) (fds := Afv) rfl (Na (n + 1) (by omega)) ⟨rfl, trivial, ⟨rfl, trivial, ⟨rfl, trivial, ⟨rfl, trivial, ⟨rfl, trivial, ⟨rfl, trivial, ⟨rfl, Sg (n + 0) (by omega), ⟨rfl, trivial, ⟨rfl, trivial, ⟨rfl, trivial, ⟨rfl, trivial, ⟨rfl, trivial, ⟨rfl, trivial, ⟨rfl, Sg (n + 0) (by omega), ⟨rfl, trivial, ⟨rfl, trivial, ⟨rfl, trivial, ⟨rfl, trivial, ⟨rfl, trivial, ⟨rfl, Sg (n + 0) (by omega), ⟨rfl, trivial, ⟨rfl, trivial, ⟨rfl, Aig (n + 0) (by omega), ⟨rfl, AcC (n + 0) (by omega), ⟨rfl, Ak9 (n + 0) (by omega), trivial⟩⟩⟩⟩⟩⟩⟩⟩⟩⟩⟩⟩⟩⟩⟩⟩⟩⟩⟩⟩⟩⟩⟩⟩⟩ rfl (by decide) (by omega) (fun kk => We (PR (n + 2) AV) (n + 2) kk) (fun kk m a k i H => rfl) (fun a b H kk => AmA (n + 2) a b H kk)
theorem AfD (x : PacketV) (h : Cf x ≤ 1048576) : S2 x := by
 have e3 := Qj It x.fWants
 have e4 := Qj zbx x.fNames
 have h0 := h
 unfold Cf at h0
 exact ⟨by omega, by omega, by omega, App Aa9 Alm _ (by omega), by omega, by omega, trivial⟩
theorem Yl (x : PacketV) (h : S2 x) : N6 Ih (Ag x) := by
 obtain ⟨h0, h1, h2, h3, h4, h5, _⟩ := h
 exact wfL_cons.2 ⟨trivial, wfL_cons.2 ⟨trivial, wfL_cons.2 ⟨trivial, wfL_cons.2 ⟨trivial, wfL_cons.2 ⟨trivial, wfL_cons.2 ⟨trivial, wfL_cons.2 ⟨Qi _ h0, wfL_cons.2 ⟨trivial, wfL_cons.2 ⟨trivial, wfL_cons.2 ⟨trivial, wfL_cons.2 ⟨trivial, wfL_cons.2 ⟨trivial, wfL_cons.2 ⟨trivial, wfL_cons.2 ⟨Qi _ h1, wfL_cons.2 ⟨trivial, wfL_cons.2 ⟨trivial, wfL_cons.2 ⟨trivial, wfL_cons.2 ⟨trivial, wfL_cons.2 ⟨trivial, wfL_cons.2 ⟨Qi _ h2, wfL_cons.2 ⟨trivial, wfL_cons.2 ⟨trivial, wfL_cons.2 ⟨Vl _ h3.1 fun y hy => AnW y (h3.2 y hy), wfL_cons.2 ⟨Alz _ h4, wfL_cons.2 ⟨Aly _ h5, rfl⟩⟩⟩⟩⟩⟩⟩⟩⟩⟩⟩⟩⟩⟩⟩⟩⟩⟩⟩⟩⟩⟩⟩⟩⟩
theorem Aek (x : PacketV) : E4 Ih (Ag x) ≤ 64 * (1 + Cf x) := by
 have c0 := Nn x.fBody
 have c1 := Nn x.fWBody
 have c2 := Nn x.fPass
 have c3 := Vz (fs := Li) (wt := It) x.fWants (fun y _ => rfl) (fun y _ => Ajo y)
 have c4 := Agd x.fNames
 have c5 := Agc x.fCodes
 have e4 := Qj zbx x.fNames
 obtain ⟨u, hu⟩ : ∃ u : Nat, u = 1 := ⟨_, rfl⟩
 have cE : E4 Ih (Ag x) = u + (u + (u + (u + (u + (u + (F4 (.sub Fc) (Ae x.fBody) + (u + (u + (u + (u + (u + (u + (F4 (.sub Fc) (Ae x.fWBody) + (u + (u + (u + (u + (u + (F4 (.sub Fc) (Ae x.fPass) + (u + (u + (F4 (.sub Li) (Bl Bu x.fWants) + (F4 (.sub Ii) (Et x.fNames) + (F4 (.sub Ow) (Ey x.fCodes) + 0)))))))))))))))))))))))) := by
  subst hu
  exact Fl rfl (Fl rfl (Fl rfl (Fl rfl (Fl rfl (Fl rfl (Fl rfl (Fl rfl (Fl rfl (Fl rfl (Fl rfl (Fl rfl (Fl rfl (Fl rfl (Fl rfl (Fl rfl (Fl rfl (Fl rfl (Fl rfl (Fl rfl (Fl rfl (Fl rfl (Fl rfl (Fl rfl (Fl rfl (rfl)))))))))))))))))))))))))
 rw [cE]
 clear cE
 generalize F4 (.sub Fc) (Ae x.fBody) = a0 at c0 ⊢
 generalize F4 (.sub Fc) (Ae x.fWBody) = a1 at c1 ⊢
 generalize F4 (.sub Fc) (Ae x.fPass) = a2 at c2 ⊢
 generalize F4 (.sub Li) (Bl Bu x.fWants) = a3 at c3 ⊢
 generalize F4 (.sub Ii) (Et x.fNames) = a4 at c4 ⊢
 generalize F4 (.sub Ow) (Ey x.fCodes) = a5 at c5 ⊢
 unfold Cf
 simp only [← zaH, zaR, Nat.mul_add]
 omega
def AiL (x : G9) : Prop := x.fHeld.size ≤ 1048576 ∧ True
theorem AiM (x : G9) (h : Ip x ≤ 1048576) : AiL x := by
 have h0 := h
 unfold Ip at h0
 exact ⟨by omega, trivial⟩
def AlU : List FV := [.sub Fc [0] 36, .skip]
def AoO : List FV := [.sub Fc [0] 57, .skip]
def Zm : List MF := Dl AlU
theorem AaD (x : G9) (h : AiL x) : N6 Zm (Bf x) := by
 obtain ⟨h0, _⟩ := h
 exact wfL_cons.2 ⟨Qi _ h0, wfL_cons.2 ⟨rfl, rfl⟩⟩
theorem Adn (x : G9) : E4 Zm (Bf x) ≤ 64 * Ip x := by
 have c0 := Nn x.fHeld
 show F4 (.sub Fc) (Ae x.fHeld) + (0 + 0) ≤ _
 unfold Ip
 omega
theorem AnB : ∀ (cs : List AV) (N : Nat), N6 Zm cs → (Ap Ak E0.tp N V1 cs).1.all A2 = true := fun cs N h => Ou _ _ _ (Ajd cs Zm h rfl)
theorem AdP (n : Nat) (hn : 1048576 < n) : Adf (n + 3) 24 V1 Zm :=
 Ai0 (n := n + 2) (tI := 3) (fvs := AlU) rfl rfl ⟨rfl, P5 (n + 0) (by omega), trivial⟩ rfl AnB (fun β a b H kk => Am7 (n + 2) a b H kk)
theorem AdD (n : Nat) (hn : 1048576 < n) : Ade (n + 3) 27 Zm :=
 Aih (n := n + 2) (tI := 3) (fvs := AoO) rfl ⟨rfl, Sg (n + 0) (by omega), trivial⟩ rfl (fun a b H kk => Am9 (n + 2) a b H kk)
end
section
open Go
theorem AtL.split {H : Ab} {ys : List AV} {N : Nat} {ts us : List Nat} {cs ds : List AV} (h : AtL H ys N (ts ++ us) (cs ++ ds)) (hl : ts.length = cs.length) : ∃ y1 y2, ys = y1 ++ y2 ∧ AtL H y1 N ts cs ∧ AtL H y2 (N + En cs) us ds := by
 obtain ⟨h1, h2, h3⟩ := h
 have e := Ig (ti := Ak) (tp := E0.tp) ts cs us ds N hl
 rw [D2] at e
 rw [e] at h1 h3
 rw [Hh] at h2
 have h4 := h3.right
 rw [D2] at h4
 exact ⟨_, _, h1, ⟨rfl, by omega, h3.left⟩, ⟨rfl, by omega, h4⟩⟩
theorem AtL.own {d : Nat} {H : Ab} {ys : List AV} {N : Nat} {ts : List Nat} {cs : List AV} (h : AtL H ys N ts cs) (hok : Fv (Hq Ak E0.tp d) ts cs) : OwnC d H ts ys cs (List.range' N (En cs)) := by
 have := Tu (fun ty t N h h' _ => Su d ty t N h h') ts cs N hok h.2.2 (H7 _ _ _)
 rw [D2, ← h.1] at this
 exact this
end
set_option maxHeartbeats 32000000
section
open Go
def Qg (x : G9) : Bool := Ga x && !x.fBad
def fdB (B : ByteArray) (r : List PacketV × Int × Int) : G9 := if r.2.1 = 2 then ⟨bs0, true⟩ else ⟨B.extract r.2.2.toNat ((B.size : Nat) : Int).toNat, false⟩
def Bi (x : G9) (b : ByteArray) : G9 := if Qg x then fdB (x.fHeld ++ b) (AfL (x.fHeld ++ b)) else x
def B9 (x : G9) (b : ByteArray) : List PacketV := if Qg x then Yh (x.fHeld ++ b) else []
theorem AfY {x : G9} (h : Ga x = true) : x.fHeld.size ≤ 345 := by
 unfold Ga at h
 rw [zaK, zag, decide_eq_true_eq, decide_eq_true_eq] at h
 rcases h with h | h
 omega
 exact Abk h.2
theorem Alw (B : ByteArray) : (0 ≤ Yi B ∧ Yi B ≤ ((B.size : Nat) : Int)) ∧ (AiW B = 2 ∨ ((B.size : Nat) : Int) - Yi B ≤ 345) := Aa6 B _ 0 [] (by omega) (by omega)
theorem Zd (n : Nat) (hn : 1048576 < n) (x : G9) (hh : x.fHeld.size ≤ 1048576) : Cb E0 (n + 5) 32 52 [.agg (Bf x)] = some (.agg (Bf x)) := by
 rw [At, AmN, f52]
 refine B8 (G := (· = some (.agg (Bf x)))) ?_
 try simp only [Fa, E9]
 have s0 : Sep [] [] := B4
 refine Ka s0 (Ez (G2 _)) fun i1 H s2 => Gv s2 fun i3 H s4 => C6 (o' := 0) rfl (Bd (c := Ae x.fHeld) s4 Cl rfl (C6 (o' := 1) rfl (Bd (c := sb x.fBad) s4 Cl rfl (Aw (cs := [Ae x.fHeld]) rfl (Bt s4 fun i5 H s6 => Bo s6 rfl (.sl (.here) rfl (.cons .ro .nil) .nil) (Ko n (by omega) x.fHeld (by omega)) (Ca x.fHeld) fun x7 H lx7 s8 => Aw (cs := [x7, sb x.fBad]) (Gh (z' := [x7, bF]) (Ch lx7) rfl (Cr rfl) rfl (Gh (z' := [x7, sb x.fBad]) (Ch rfl) rfl (Cr rfl) rfl (rfl))) (Cd (cs' := [x7, sb x.fBad]) s8 Fy (Aj (Aa lx7 rfl)) rfl (Cr rfl) rfl fun H s9 => Av s9 (.here) rfl (Al (Bp s9 ⟨_, rfl, rfl⟩ (.own Cl (.sc .nil)) ⟨(Bh (Ca x.fHeld) (by decide)), ⟨trivial, trivial⟩⟩) ?_)))))))
 rfl
theorem Zw (n : Nat) (hn : 1048576 < n) (x : G9) (hh : x.fHeld.size ≤ 1048576) : Cb E0 (n + 1) 32 51 [.agg (Bf x)] = some (.agg (Bf x)) := by
 rw [At, AmM, f51]
 refine B8 (G := (· = some (.agg (Bf x)))) ?_
 try simp only [Fa, E9]
 have s0 : Sep [] [] := B4
 refine Ka s0 (Ez (G2 _)) fun i1 H s2 => Gv s2 fun i3 H s4 => C6 (o' := 0) rfl (Bd (c := Ae x.fHeld) s4 Cl rfl (C6 (o' := 1) rfl (Bd (c := sb x.fBad) s4 Cl rfl ?_)))
 have s5 := s4.nl (ty := 22) ⟨_, _, rfl, rfl⟩
 refine Ki (s := bs0) s5 ⟨_, _, rfl, rfl, rfl, rfl⟩ (.here) O2 (by (simp only [zah, Az]; omega)) fun x6 H lx6 s7 => Aw (cs := [x6, .sc (.bool x.fBad)]) (Gh (z' := [x6, .sc (.bool false)]) (Ch lx6) rfl (Cr rfl) rfl (Gh (z' := [x6, .sc (.bool x.fBad)]) (Ch rfl) rfl (Cr rfl) rfl (rfl))) (Cd (cs' := [x6, .sc (.bool x.fBad)]) s7 Cl (Aj (Aa lx6 rfl)) rfl (Cr rfl) rfl fun H s8 => Av s8 (.here) rfl (Al (Bp s8 ⟨_, rfl, rfl⟩ (.own Cl (.sc .nil)) ⟨(Bh (Ca (bs0 ++ x.fHeld)) (by decide)), ⟨trivial, trivial⟩⟩) ?_))
 rfl
theorem Af1 (n : Nat) (hn : 1048576 < n) (x : G9) (b : ByteArray) (hh : x.fHeld.size ≤ 1048576) (hb : b.size ≤ 1048576) : Cb E0 (n + 15) 43 42 [.agg (Bf x), Ae b] = some (.tup [.agg (Bf (Bi x b)), Bl Ag (B9 x b)]) := by
 rw [At, AmK, f42]
 refine B8 (G := (· = some (.tup [.agg (Bf (Bi x b)), Bl Ag (B9 x b)]))) ?_
 have hq := zah (a := x.fHeld) (b := b)
 have hend := Alw (x.fHeld ++ b)
 try simp only [Fa, E9]
 have s0 : Sep [] [] := B4
 refine Ka s0 (Ez (G2 _)) fun i1 H s2 => Gv s2 fun i3 H s4 => Av s4 Cl rfl (Bm (v := (.bool (Ga x))) s4 rfl (.aggF (G2 _) .nil) (Aii n (by omega) x hh) (Cv (Ac ((Ga x)) (fun h5 => ?_) fun h5 => ?_)))
 refine Ao (nF h5) (C6 (o' := 1) rfl (Ao (nF h5) (Bd (c := sb x.fBad) s4 Cl rfl (D3 (nF h5) (Ac (x.fBad) (fun h6 => ?_) fun h6 => ?_)))))
 refine Au h6 (Av s4 Cl rfl (Lf s4 rfl (.aggF (G2 _) .nil) (Zd (n + 9) (by omega) x hh) ⟨_, rfl, rfl⟩ (Hx (ty := 22) rfl (Ca x.fHeld) (A1 C2)) ?_))
 rintro _ _ H ⟨x7, _, _, lx7, rfl, rfl, ⟨_, rfl, ⟨rfl, rfl⟩⟩⟩ s8
 simp only [zai, zaq] at s8
 refine Cd (cs' := [x7, sb x.fBad]) s8 Cl (Aj (Aa lx7 rfl)) rfl (Cr rfl) rfl fun H s9 => Av s9 (.here) rfl (Al (Bj s9 rfl (.agg ⟨_, rfl, rfl⟩ (.own Cl (.sc .nil)) (.nl .nil)) ⟨(Jd ⟨_, rfl, rfl⟩ ⟨(Bh (Ca x.fHeld) (by decide)), ⟨trivial, trivial⟩⟩), ⟨A3, trivial⟩⟩) ?_)
 have e : Bi x b = (⟨x.fHeld, x.fBad⟩ : G9) ∧ B9 x b = [] := by
  clear s0 s2 s4 s8 s9
  unfold Bi B9 Qg fdB; simp only [h5, h6, Kh, za2, za4, za6, zaL, zau, zaw, zaa, if_true, if_false, reduceIte]; ((cases x; simp_all; done))
 rw [e.1, e.2]
 rfl
 refine A6 h6 (C6 (o' := 0) rfl (Bd (c := Ae x.fHeld) s4 Cl rfl (Aw (cs := [Ae x.fHeld, Ae b]) rfl (Bt s4 fun i10 H s11 => Bo s11 rfl (.sl (.here) rfl (.cons .ro (.cons .ro .nil)) .nil) (L9 (n + 10) (by omega) x.fHeld b (by omega)) (Ca (x.fHeld ++ b)) fun x12 H lx12 s13 => Do s13 rfl (.cons (.own (by decide) (.here)) .nil) (AkF n (by omega) (x.fHeld ++ b) (by rw [zah]; omega)) rfl (Hx (ty := 33) rfl (Jk (Yh (x.fHeld ++ b))) (A1 (A1 C2))) ?_))))
 rintro _ _ H ⟨x14, _, _, lx14, rfl, rfl, ⟨_, rfl, ⟨_, rfl, ⟨rfl, rfl⟩⟩⟩⟩ s15
 simp only [zai, zaq] at s15
 refine A9 (v := x14) rfl (A9 (v := si (AiW (x.fHeld ++ b))) rfl (A9 (v := si (Yi (x.fHeld ++ b))) rfl (Ce (Ac ((decide ((AiW (x.fHeld ++ b)) = 2))) (fun h16 => ?_) fun h16 => ?_))))
 have dh16 := of_decide_eq_true h16
 refine Au h16 (Aw (cs := [.nl, bT]) rfl (Cd (cs' := [.nl, bT]) s15 Ls (Aj rfl) rfl (Cr rfl) rfl fun H s17 => Av s17 (.here) rfl (Al (Bj s17 rfl (.agg ⟨_, rfl, rfl⟩ (.nl (.sc .nil)) (.own Cl .nil)) ⟨(Jd ⟨_, rfl, rfl⟩ ⟨A3, ⟨trivial, trivial⟩⟩), ⟨(Bh (Jk (Yh (x.fHeld ++ b))) (by decide)), trivial⟩⟩) ?_)))
 have e : Bi x b = (⟨⟨#[]⟩, true⟩ : G9) ∧ B9 x b = (Yh (x.fHeld ++ b)) := by
  simp only [Ea] at h16
  unfold Bi B9 Qg fdB; simp only [h5, h6, h16, Kh, za2, za4, za6, zaL, zau, zaw, zaa, if_true, if_false, reduceIte]; (exact ⟨trivial, trivial⟩)
 rw [e.1, e.2]
 rfl
 have dh16 := of_decide_eq_false h16
 refine A6 h16 ?_
 have s18 := s15.toShs Cl
 refine Qq (a := (Yi (x.fHeld ++ b))) (b := (((x.fHeld ++ b).size : Nat) : Int)) s18 ⟨_, _, rfl, rfl, rfl, rfl⟩ (.here) rfl rfl (by omega) (by omega) (by omega) fun y19 ly19 s20 => Aw (cs := [y19]) (Gh (z' := [y19]) (Ch ly19) rfl (Cr rfl) rfl (rfl)) (Bt s20 fun i21 H s22 => Bo s22 rfl (.sl (.here) rfl (.cons (.shsE (k := 0) (by decide) Cl rfl) .nil) .nil) (Ko (n + 10) (by omega) ((x.fHeld ++ b).extract (Yi (x.fHeld ++ b)).toNat (((x.fHeld ++ b).size : Nat) : Int).toNat) (by (rw [zap]; omega))) (Ca ((x.fHeld ++ b).extract (Yi (x.fHeld ++ b)).toNat (((x.fHeld ++ b).size : Nat) : Int).toNat)) fun x23 H lx23 s24 => Aw (cs := [x23, .sc (.bool false)]) (Gh (z' := [x23, .sc (.bool false)]) (Ch lx23) rfl (Cr rfl) rfl (rfl)) (Cd (cs' := [x23, .sc (.bool false)]) s24 U5 (Aj (Aa lx23 rfl)) rfl (Cr rfl) rfl fun H s25 => Av s25 (.here) rfl ?_))
 have s26 := s25.ofShs Ls
 refine Al (Bj s26 rfl (.agg ⟨_, rfl, rfl⟩ (.own Fy (.sc .nil)) (.own Ls .nil)) ⟨(Jd ⟨_, rfl, rfl⟩ ⟨(Bh (Ca ((x.fHeld ++ b).extract (Yi (x.fHeld ++ b)).toNat (((x.fHeld ++ b).size : Nat) : Int).toNat)) (by decide)), ⟨trivial, trivial⟩⟩), ⟨(Bh (Jk (Yh (x.fHeld ++ b))) (by decide)), trivial⟩⟩) ?_
 have e : Bi x b = (⟨((x.fHeld ++ b).extract (Yi (x.fHeld ++ b)).toNat (((x.fHeld ++ b).size : Nat) : Int).toNat), false⟩ : G9) ∧ B9 x b = (Yh (x.fHeld ++ b)) := by
  simp only [Ea] at h16
  unfold Bi B9 Qg fdB; simp only [h5, h6, h16, Kh, za2, za4, za6, zaL, zau, zaw, zaa, if_true, if_false, reduceIte]; (exact ⟨trivial, trivial⟩)
 rw [e.1, e.2]
 rfl
 refine Am (nT h5) (Am (nT h5) (D7 (nT h5) (Au rfl (Av s4 Cl rfl (Lf s4 rfl (.aggF (G2 _) .nil) (Zd (n + 9) (by omega) x hh) ⟨_, rfl, rfl⟩ (Hx (ty := 22) rfl (Ca x.fHeld) (A1 C2)) ?_)))))
 rintro _ _ H ⟨x27, _, _, lx27, rfl, rfl, ⟨_, rfl, ⟨rfl, rfl⟩⟩⟩ s28
 simp only [zai, zaq] at s28
 refine Cd (cs' := [x27, sb x.fBad]) s28 Cl (Aj (Aa lx27 rfl)) rfl (Cr rfl) rfl fun H s29 => Av s29 (.here) rfl (Al (Bj s29 rfl (.agg ⟨_, rfl, rfl⟩ (.own Cl (.sc .nil)) (.nl .nil)) ⟨(Jd ⟨_, rfl, rfl⟩ ⟨(Bh (Ca x.fHeld) (by decide)), ⟨trivial, trivial⟩⟩), ⟨A3, trivial⟩⟩) ?_)
 have e : Bi x b = (⟨x.fHeld, x.fBad⟩ : G9) ∧ B9 x b = [] := by
  unfold Bi B9 Qg fdB; simp only [h5, Kh, za2, za4, za6, zaL, zau, zaw, zaa, if_true, if_false, reduceIte]; (exact ⟨trivial, trivial⟩)
 rw [e.1, e.2]
 rfl
theorem AdZ (n : Nat) (hn : 1048576 < n) (B : ByteArray) (hB : B.size ≤ 2097152) (d4 : Nat) : ∀ (f m : Nat) (a : Int) (l : List PacketV) (xl xb : AV) (H : Ab), f ≤ m → ((B.size : Nat) : Int) - a < 2 * f → (0 ≤ a ∧ a ≤ ((B.size : Nat) : Int)) → ((l.length : Nat) : Int) ≤ a → A2 xl = true → A2 xb = true → Sep H [.own xl 33 (Bl Ag l), .own xb 22 (Ae B), .blk d4 [.nl, .sc (.bool false)] true] → Gd (· = some (.tup [.agg (Bf (fdB B (Rw B f a l))), Bl Ag (Rw B f a l).1])) (Tf (PR (n + 14) AV) (n + 14) (fun x H => A4 Ak E0.tp 43 H x) m (.ptr d4 0) (xb) (xl) (.sc (.int .i64 a)) H)
 | 0, m, a, l, xl, xb, H, hm, hM, h0, h1, lxl, lxb, s0 => by
  exfalso
  omega
 | f + 1, m + 1, a, l, xl, xb, H, hm, hM, h0, h1, lxl, lxb, s0 => by
  rw [Tf]
  try simp only [Fa, E9]
  refine Jt s0 Cl (Dq (Ac ((decide (a < ((B.size : Nat) : Int)))) (fun h1 => ?_) fun h1 => ?_))
  have dh1 := of_decide_eq_true h1
  refine Au h1 ?_
  have s2 := s0.toShs Cl
  refine Qq (a := a) (b := ((B.size : Nat) : Int)) s2 ⟨_, _, rfl, rfl, rfl, rfl⟩ (.here) rfl rfl (by omega) (by omega) (by omega) fun y3 ly3 s4 => Do s4 rfl (.cons (.shsE (k := 0) (by decide) (.here) rfl) .nil) (AbK (n + 1) (by omega) (B.extract a.toNat ((B.size : Nat) : Int).toNat) (by rw [zap]; omega)) rfl (Vd ⟨_, rfl, rfl⟩ (Ie _) (A1 (A1 C2))) ?_
  rintro _ _ H ⟨_, _, _, _, rfl, rfl, ⟨x5, x6, x7, x8, x9, x10, lx5, lx6, lx7, lx8, lx9, lx10, rfl, rfl⟩, ⟨_, rfl, ⟨_, rfl, ⟨rfl, rfl⟩⟩⟩⟩ s11
  simp only [zai, zaq] at s11
  refine A9 (v := .agg [.sc (.int .i64 ((Ad (B.extract a.toNat ((B.size : Nat) : Int).toNat)).fType)), .sc (.bool (Ad (B.extract a.toNat ((B.size : Nat) : Int).toNat)).fDup), .sc (.int .i64 ((Ad (B.extract a.toNat ((B.size : Nat) : Int).toNat)).fQos)), .sc (.bool (Ad (B.extract a.toNat ((B.size : Nat) : Int).toNat)).fRetain), .sc (.int .i64 ((Ad (B.extract a.toNat ((B.size : Nat) : Int).toNat)).fId)), .sc (.string ((Ad (B.extract a.toNat ((B.size : Nat) : Int).toNat)).fTopic)), x5, .sc (.string ((Ad (B.extract a.toNat ((B.size : Nat) : Int).toNat)).fClient)), .sc (.int .i64 ((Ad (B.extract a.toNat ((B.size : Nat) : Int).toNat)).fLevel)), .sc (.bool (Ad (B.extract a.toNat ((B.size : Nat) : Int).toNat)).fClean), .sc (.int .i64 ((Ad (B.extract a.toNat ((B.size : Nat) : Int).toNat)).fKeep)), .sc (.bool (Ad (B.extract a.toNat ((B.size : Nat) : Int).toNat)).fHasWill), .sc (.string ((Ad (B.extract a.toNat ((B.size : Nat) : Int).toNat)).fWTopic)), x6, .sc (.int .i64 ((Ad (B.extract a.toNat ((B.size : Nat) : Int).toNat)).fWQos)), .sc (.bool (Ad (B.extract a.toNat ((B.size : Nat) : Int).toNat)).fWRetain), .sc (.bool (Ad (B.extract a.toNat ((B.size : Nat) : Int).toNat)).fHasUser), .sc (.string ((Ad (B.extract a.toNat ((B.size : Nat) : Int).toNat)).fUser)), .sc (.bool (Ad (B.extract a.toNat ((B.size : Nat) : Int).toNat)).fHasPass), x7, .sc (.int .i64 ((Ad (B.extract a.toNat ((B.size : Nat) : Int).toNat)).fCode)), .sc (.bool (Ad (B.extract a.toNat ((B.size : Nat) : Int).toNat)).fPresent), x8, x9, x10]) rfl (A9 (v := si (Kt (B.extract a.toNat ((B.size : Nat) : Int).toNat))) rfl (A9 (v := si (G6 (B.extract a.toNat ((B.size : Nat) : Int).toNat))) rfl (Gv s11 fun i12 H s13 => ?_)))
  refine Cd (cs' := [.sc (.int .i64 ((Ad (B.extract a.toNat ((B.size : Nat) : Int).toNat)).fType)), .sc (.bool (Ad (B.extract a.toNat ((B.size : Nat) : Int).toNat)).fDup), .sc (.int .i64 ((Ad (B.extract a.toNat ((B.size : Nat) : Int).toNat)).fQos)), .sc (.bool (Ad (B.extract a.toNat ((B.size : Nat) : Int).toNat)).fRetain), .sc (.int .i64 ((Ad (B.extract a.toNat ((B.size : Nat) : Int).toNat)).fId)), .sc (.string ((Ad (B.extract a.toNat ((B.size : Nat) : Int).toNat)).fTopic)), x5, .sc (.string ((Ad (B.extract a.toNat ((B.size : Nat) : Int).toNat)).fClient)), .sc (.int .i64 ((Ad (B.extract a.toNat ((B.size : Nat) : Int).toNat)).fLevel)), .sc (.bool (Ad (B.extract a.toNat ((B.size : Nat) : Int).toNat)).fClean), .sc (.int .i64 ((Ad (B.extract a.toNat ((B.size : Nat) : Int).toNat)).fKeep)), .sc (.bool (Ad (B.extract a.toNat ((B.size : Nat) : Int).toNat)).fHasWill), .sc (.string ((Ad (B.extract a.toNat ((B.size : Nat) : Int).toNat)).fWTopic)), x6, .sc (.int .i64 ((Ad (B.extract a.toNat ((B.size : Nat) : Int).toNat)).fWQos)), .sc (.bool (Ad (B.extract a.toNat ((B.size : Nat) : Int).toNat)).fWRetain), .sc (.bool (Ad (B.extract a.toNat ((B.size : Nat) : Int).toNat)).fHasUser), .sc (.string ((Ad (B.extract a.toNat ((B.size : Nat) : Int).toNat)).fUser)), .sc (.bool (Ad (B.extract a.toNat ((B.size : Nat) : Int).toNat)).fHasPass), x7, .sc (.int .i64 ((Ad (B.extract a.toNat ((B.size : Nat) : Int).toNat)).fCode)), .sc (.bool (Ad (B.extract a.toNat ((B.size : Nat) : Int).toNat)).fPresent), x8, x9, x10]) s13 (.here) (Aj (Aa rfl (Aa rfl (Aa rfl (Aa rfl (Aa rfl (Aa rfl (Aa lx5 (Aa rfl (Aa rfl (Aa rfl (Aa rfl (Aa rfl (Aa rfl (Aa lx6 (Aa rfl (Aa rfl (Aa rfl (Aa rfl (Aa rfl (Aa lx7 (Aa rfl (Aa rfl (Aa lx8 (Aa lx9 (Aa lx10 rfl)))))))))))))))))))))))))) rfl (Cr rfl) rfl fun H s14 => Ce (Ac ((decide ((G6 (B.extract a.toNat ((B.size : Nat) : Int).toNat)) = 2))) (fun h15 => ?_) fun h15 => ?_)
  have dh15 := of_decide_eq_true h15
  refine Au h15 (Aw (cs := [.nl, bT]) rfl (Cd (cs' := [.nl, bT]) s14 zP9 (Aj rfl) rfl (Cr rfl) rfl fun H s16 => Av s16 (.here) rfl ?_))
  have s17 := s16.ofShs zP8
  refine Al (Bj s17 rfl (.agg ⟨_, rfl, rfl⟩ (.nl (.sc .nil)) (.own zP9 .nil)) ⟨(Jd ⟨_, rfl, rfl⟩ ⟨A3, ⟨trivial, trivial⟩⟩), ⟨(Bh (Jk l) (by decide)), trivial⟩⟩) ?_
  have e : Rw B (f + 1) a l = (l, 2, a) := by
   clear s0 s2 s4 s11 s13 s14 s16 s17
   simp only [Ea] at h1 h15
   have hn0 : ¬ G6 (B.extract a.toNat ((B.size : Nat) : Int).toNat) = 0 := by omega
   rw [Rw, if_pos h1, if_neg hn0, h15]
  rw [e]
  (simp only [fdB, Kh]; rfl)
  have dh15 := of_decide_eq_false h15
  refine A6 h15 (Ce (Ac ((decide ((G6 (B.extract a.toNat ((B.size : Nat) : Int).toNat)) = 1))) (fun h18 => ?_) fun h18 => ?_))
  have dh18 := of_decide_eq_true h18
  refine Au h18 (Qq (a := a) (b := ((B.size : Nat) : Int)) s14 ⟨_, _, rfl, rfl, rfl, rfl⟩ zP7 rfl rfl (by omega) (by omega) (by omega) fun y19 ly19 s20 => ?_)
  have s21 := s20.nl (ty := 22) ⟨_, _, rfl, rfl⟩
  refine Ki (s := bs0) (t := (B.extract a.toNat ((B.size : Nat) : Int).toNat)) s21 ⟨_, _, rfl, rfl, rfl, rfl⟩ (.here) (Zy (k := 0) ⟨_, _, rfl, rfl, rfl, rfl⟩ (.here) rfl (Iy _)) (by (simp only [Az, zap]; omega)) fun x22 H lx22 s23 => Aw (cs := [x22, .sc (.bool false)]) (Gh (z' := [x22, .sc (.bool false)]) (Ch lx22) rfl (Cr rfl) rfl (rfl)) (Cd (cs' := [x22, .sc (.bool false)]) s23 Aqh (Aj (Aa lx22 rfl)) rfl (Cr rfl) rfl fun H s24 => Av s24 (.here) rfl ?_)
  have s25 := s24.ofShs Fy
  refine Al (Bj s25 rfl (.agg ⟨_, rfl, rfl⟩ (.own Fy (.sc .nil)) (.own zP9 .nil)) ⟨(Jd ⟨_, rfl, rfl⟩ ⟨(Bh (Ca (bs0 ++ (B.extract a.toNat ((B.size : Nat) : Int).toNat))) (by decide)), ⟨trivial, trivial⟩⟩), ⟨(Bh (Jk l) (by decide)), trivial⟩⟩) ?_
  have e : Rw B (f + 1) a l = (l, 1, a) := by
   clear s0 s2 s4 s11 s13 s14 s20 s21 s23 s24 s25
   simp only [Ea] at h1 h15 h18
   have hn0 : ¬ G6 (B.extract a.toNat ((B.size : Nat) : Int).toNat) = 0 := by omega
   rw [Rw, if_pos h1, if_neg hn0, h18]
  rw [e]
  (simp only [fdB, Kh]; rfl)
  have dh18 := of_decide_eq_false h18
  have h9 := Aic (B.extract a.toNat ((B.size : Nat) : Int).toNat)
  have hz : G6 (B.extract a.toNat ((B.size : Nat) : Int).toNat) = 0 := by omega
  have hk := Vc hz
  rw [Pm B h0] at hk
  refine A6 h18 (Av s14 (.here) rfl ?_)
  refine Aw (cs := [.sc (.int .i64 ((Ad (B.extract a.toNat ((B.size : Nat) : Int).toNat)).fType)), .sc (.bool (Ad (B.extract a.toNat ((B.size : Nat) : Int).toNat)).fDup), .sc (.int .i64 ((Ad (B.extract a.toNat ((B.size : Nat) : Int).toNat)).fQos)), .sc (.bool (Ad (B.extract a.toNat ((B.size : Nat) : Int).toNat)).fRetain), .sc (.int .i64 ((Ad (B.extract a.toNat ((B.size : Nat) : Int).toNat)).fId)), .sc (.string ((Ad (B.extract a.toNat ((B.size : Nat) : Int).toNat)).fTopic)), x5, .sc (.string ((Ad (B.extract a.toNat ((B.size : Nat) : Int).toNat)).fClient)), .sc (.int .i64 ((Ad (B.extract a.toNat ((B.size : Nat) : Int).toNat)).fLevel)), .sc (.bool (Ad (B.extract a.toNat ((B.size : Nat) : Int).toNat)).fClean), .sc (.int .i64 ((Ad (B.extract a.toNat ((B.size : Nat) : Int).toNat)).fKeep)), .sc (.bool (Ad (B.extract a.toNat ((B.size : Nat) : Int).toNat)).fHasWill), .sc (.string ((Ad (B.extract a.toNat ((B.size : Nat) : Int).toNat)).fWTopic)), x6, .sc (.int .i64 ((Ad (B.extract a.toNat ((B.size : Nat) : Int).toNat)).fWQos)), .sc (.bool (Ad (B.extract a.toNat ((B.size : Nat) : Int).toNat)).fWRetain), .sc (.bool (Ad (B.extract a.toNat ((B.size : Nat) : Int).toNat)).fHasUser), .sc (.string ((Ad (B.extract a.toNat ((B.size : Nat) : Int).toNat)).fUser)), .sc (.bool (Ad (B.extract a.toNat ((B.size : Nat) : Int).toNat)).fHasPass), x7, .sc (.int .i64 ((Ad (B.extract a.toNat ((B.size : Nat) : Int).toNat)).fCode)), .sc (.bool (Ad (B.extract a.toNat ((B.size : Nat) : Int).toNat)).fPresent), x8, x9, x10]) (Gh (z' := [.sc (.int .i64 ((Ad (B.extract a.toNat ((B.size : Nat) : Int).toNat)).fType)), .sc (.bool (Ad (B.extract a.toNat ((B.size : Nat) : Int).toNat)).fDup), .sc (.int .i64 ((Ad (B.extract a.toNat ((B.size : Nat) : Int).toNat)).fQos)), .sc (.bool (Ad (B.extract a.toNat ((B.size : Nat) : Int).toNat)).fRetain), .sc (.int .i64 ((Ad (B.extract a.toNat ((B.size : Nat) : Int).toNat)).fId)), .sc (.string ((Ad (B.extract a.toNat ((B.size : Nat) : Int).toNat)).fTopic)), x5, .sc (.string ((Ad (B.extract a.toNat ((B.size : Nat) : Int).toNat)).fClient)), .sc (.int .i64 ((Ad (B.extract a.toNat ((B.size : Nat) : Int).toNat)).fLevel)), .sc (.bool (Ad (B.extract a.toNat ((B.size : Nat) : Int).toNat)).fClean), .sc (.int .i64 ((Ad (B.extract a.toNat ((B.size : Nat) : Int).toNat)).fKeep)), .sc (.bool (Ad (B.extract a.toNat ((B.size : Nat) : Int).toNat)).fHasWill), .sc (.string ((Ad (B.extract a.toNat ((B.size : Nat) : Int).toNat)).fWTopic)), x6, .sc (.int .i64 ((Ad (B.extract a.toNat ((B.size : Nat) : Int).toNat)).fWQos)), .sc (.bool (Ad (B.extract a.toNat ((B.size : Nat) : Int).toNat)).fWRetain), .sc (.bool (Ad (B.extract a.toNat ((B.size : Nat) : Int).toNat)).fHasUser), .sc (.string ((Ad (B.extract a.toNat ((B.size : Nat) : Int).toNat)).fUser)), .sc (.bool (Ad (B.extract a.toNat ((B.size : Nat) : Int).toNat)).fHasPass), x7, .sc (.int .i64 ((Ad (B.extract a.toNat ((B.size : Nat) : Int).toNat)).fCode)), .sc (.bool (Ad (B.extract a.toNat ((B.size : Nat) : Int).toNat)).fPresent), x8, x9, x10]) (Aj (Aa rfl (Aa rfl (Aa rfl (Aa rfl (Aa rfl (Aa rfl (Aa lx5 (Aa rfl (Aa rfl (Aa rfl (Aa rfl (Aa rfl (Aa rfl (Aa lx6 (Aa rfl (Aa rfl (Aa rfl (Aa rfl (Aa rfl (Aa lx7 (Aa rfl (Aa rfl (Aa lx8 (Aa lx9 (Aa lx10 rfl)))))))))))))))))))))))))) rfl (Cr rfl) rfl (rfl)) ?_
  refine Bt s14 fun i26 H s27 => ?_
  refine AdB (cty := [3, 4, 3, 4, 3, 9, 22, 9, 3, 4, 3, 4, 9, 22, 3, 4, 4, 9, 4, 22, 3, 4, 55, 56, 57]) (e := (⟨(Ad (B.extract a.toNat ((B.size : Nat) : Int).toNat)).fType, (Ad (B.extract a.toNat ((B.size : Nat) : Int).toNat)).fDup, (Ad (B.extract a.toNat ((B.size : Nat) : Int).toNat)).fQos, (Ad (B.extract a.toNat ((B.size : Nat) : Int).toNat)).fRetain, (Ad (B.extract a.toNat ((B.size : Nat) : Int).toNat)).fId, (Ad (B.extract a.toNat ((B.size : Nat) : Int).toNat)).fTopic, (Ad (B.extract a.toNat ((B.size : Nat) : Int).toNat)).fBody, (Ad (B.extract a.toNat ((B.size : Nat) : Int).toNat)).fClient, (Ad (B.extract a.toNat ((B.size : Nat) : Int).toNat)).fLevel, (Ad (B.extract a.toNat ((B.size : Nat) : Int).toNat)).fClean, (Ad (B.extract a.toNat ((B.size : Nat) : Int).toNat)).fKeep, (Ad (B.extract a.toNat ((B.size : Nat) : Int).toNat)).fHasWill, (Ad (B.extract a.toNat ((B.size : Nat) : Int).toNat)).fWTopic, (Ad (B.extract a.toNat ((B.size : Nat) : Int).toNat)).fWBody, (Ad (B.extract a.toNat ((B.size : Nat) : Int).toNat)).fWQos, (Ad (B.extract a.toNat ((B.size : Nat) : Int).toNat)).fWRetain, (Ad (B.extract a.toNat ((B.size : Nat) : Int).toNat)).fHasUser, (Ad (B.extract a.toNat ((B.size : Nat) : Int).toNat)).fUser, (Ad (B.extract a.toNat ((B.size : Nat) : Int).toNat)).fHasPass, (Ad (B.extract a.toNat ((B.size : Nat) : Int).toNat)).fPass, (Ad (B.extract a.toNat ((B.size : Nat) : Int).toNat)).fCode, (Ad (B.extract a.toNat ((B.size : Nat) : Int).toNat)).fPresent, ((Ad (B.extract a.toNat ((B.size : Nat) : Int).toNat)).fWants), (Ad (B.extract a.toNat ((B.size : Nat) : Int).toNat)).fNames, (Ad (B.extract a.toNat ((B.size : Nat) : Int).toNat)).fCodes⟩ : PacketV)) (k := 6) s27 ⟨_, _, rfl, rfl, rfl, rfl⟩ zP9 (.here) rfl (Aa rfl (Aa rfl (Aa rfl (Aa rfl (Aa rfl (Aa rfl (Aa lx5 (Aa rfl (Aa rfl (Aa rfl (Aa rfl (Aa rfl (Aa rfl (Aa lx6 (Aa rfl (Aa rfl (Aa rfl (Aa rfl (Aa rfl (Aa lx7 (Aa rfl (Aa rfl (Aa lx8 (Aa lx9 (Aa lx10 rfl))))))))))))))))))))))))) (Dr (.own Yw (Dr (.own U5 (Hi (.own Mm (.sc (.sc (.own Ls (.own Fy (.own Cl .nil))))))))))) (Ds ⟨(Af6 ((Ad (B.extract a.toNat ((B.size : Nat) : Int).toNat)).fBody)), (Ds ⟨(Af6 ((Ad (B.extract a.toNat ((B.size : Nat) : Int).toNat)).fWBody)), (Hk ⟨(Af6 ((Ad (B.extract a.toNat ((B.size : Nat) : Int).toNat)).fPass)), (E8 ⟨(Ab4 ((Ad (B.extract a.toNat ((B.size : Nat) : Int).toNat)).fWants)), ⟨(Api ((Ad (B.extract a.toNat ((B.size : Nat) : Int).toNat)).fNames)), ⟨(Aph ((Ad (B.extract a.toNat ((B.size : Nat) : Int).toNat)).fCodes)), trivial⟩⟩⟩)⟩)⟩)⟩) rfl (by omega) Gi rfl rfl rfl rfl (Ca ((Ad (B.extract a.toNat ((B.size : Nat) : Int).toNat)).fBody)) fun x28 H lx28 s29 => ?_
  refine Bq (by omega) (by omega) ?_
  have e : Rw B (f + 1) a l = Rw B f (a + (Kt (B.extract a.toNat ((B.size : Nat) : Int).toNat))) (l ++ [Ad (B.extract a.toNat ((B.size : Nat) : Int).toNat)]) := by
   simp only [Ea] at h1 h15 h18
   rw [Rw, if_pos h1, if_pos hz]
  rw [e]
  have s30 := s29.ofShs Fy
  have s31 := s30.forget Cl
  exact AdZ n hn B hB d4 f m (a + (Kt (B.extract a.toNat ((B.size : Nat) : Int).toNat))) (l ++ [Ad (B.extract a.toNat ((B.size : Nat) : Int).toNat)]) x28 xb _ (by omega) (by omega) (by omega) (by simp only [zae, zas]; omega) lx28 lxb (s31.sel (.cons (.here) (.cons (.here) (.cons Cl .nil))))
  have dh1 := of_decide_eq_false h1
  refine A6 h1 ?_
  have s32 := s0.toShs Cl
  refine Qq (a := a) (b := ((B.size : Nat) : Int)) s32 ⟨_, _, rfl, rfl, rfl, rfl⟩ (.here) rfl rfl (by omega) (by omega) (by omega) fun y33 ly33 s34 => ?_
  have s35 := s34.nl (ty := 22) ⟨_, _, rfl, rfl⟩
  refine Ki (s := bs0) (t := (B.extract a.toNat ((B.size : Nat) : Int).toNat)) s35 ⟨_, _, rfl, rfl, rfl, rfl⟩ (.here) (Zy (k := 0) ⟨_, _, rfl, rfl, rfl, rfl⟩ (.here) rfl (Iy _)) (by (simp only [Az, zap]; omega)) fun x36 H lx36 s37 => Aw (cs := [x36, .sc (.bool false)]) (Gh (z' := [x36, .sc (.bool false)]) (Ch lx36) rfl (Cr rfl) rfl (rfl)) (Cd (cs' := [x36, .sc (.bool false)]) s37 Ls (Aj (Aa lx36 rfl)) rfl (Cr rfl) rfl fun H s38 => Av s38 (.here) rfl ?_)
  have s39 := s38.ofShs Fy
  refine Al (Bj s39 rfl (.agg ⟨_, rfl, rfl⟩ (.own Fy (.sc .nil)) (.own Fy .nil)) ⟨(Jd ⟨_, rfl, rfl⟩ ⟨(Bh (Ca (bs0 ++ (B.extract a.toNat ((B.size : Nat) : Int).toNat))) (by decide)), ⟨trivial, trivial⟩⟩), ⟨(Bh (Jk l) (by decide)), trivial⟩⟩) ?_
  have e : Rw B (f + 1) a l = (l, 0, a) := by
   simp only [Ea] at h1
   rw [Rw, if_neg h1]
  rw [e]
  (simp only [fdB, Kh]; rfl)
theorem AfE (n : Nat) (hn : 1048576 < n) (x : G9) (b : ByteArray) (hh : x.fHeld.size ≤ 1048576) (hb : b.size ≤ 1048576) : Cb E0 (n + 15) 43 41 [.agg (Bf x), Ae b] = some (.tup [.agg (Bf (Bi x b)), Bl Ag (B9 x b)]) := by
 rw [At, AmJ, f41]
 refine B8 (G := (· = some (.tup [.agg (Bf (Bi x b)), Bl Ag (B9 x b)]))) ?_
 have hq := zah (a := x.fHeld) (b := b)
 try simp only [Fa, E9]
 have s0 : Sep [] [] := B4
 refine Ka s0 (Ez (G2 _)) fun i1 H s2 => Gv s2 fun i3 H s4 => Av s4 Cl rfl (Bm (v := (.bool (Ga x))) s4 rfl (.aggF (G2 _) .nil) (AiN n (by omega) x hh) (Cv (Ac ((Ga x)) (fun h5 => ?_) fun h5 => ?_)))
 refine Ao (nF h5) (C6 (o' := 1) rfl (Ao (nF h5) (Bd (c := sb x.fBad) s4 Cl rfl (D3 (nF h5) (Ac (x.fBad) (fun h6 => ?_) fun h6 => ?_)))))
 refine Au h6 (Av s4 Cl rfl (Lf s4 rfl (.aggF (G2 _) .nil) (Zw (n + 13) (by omega) x hh) ⟨_, rfl, rfl⟩ (Hx (ty := 22) rfl (Ca x.fHeld) (A1 C2)) ?_))
 rintro _ _ H ⟨x7, _, _, lx7, rfl, rfl, ⟨_, rfl, ⟨rfl, rfl⟩⟩⟩ s8
 simp only [zai, zaq] at s8
 refine Cd (cs' := [x7, sb x.fBad]) s8 Cl (Aj (Aa lx7 rfl)) rfl (Cr rfl) rfl fun H s9 => Av s9 (.here) rfl (Al (Bj s9 rfl (.agg ⟨_, rfl, rfl⟩ (.own Cl (.sc .nil)) (.nl .nil)) ⟨(Jd ⟨_, rfl, rfl⟩ ⟨(Bh (Ca x.fHeld) (by decide)), ⟨trivial, trivial⟩⟩), ⟨A3, trivial⟩⟩) ?_)
 have e : Bi x b = (⟨x.fHeld, x.fBad⟩ : G9) ∧ B9 x b = [] := by
  clear s0 s2 s4 s8 s9
  unfold Bi B9 Qg fdB; simp only [h5, h6, Kh, za2, za4, za6, zaL, zau, zaw, zaa, if_true, if_false, reduceIte]; ((cases x; simp_all; done))
 rw [e.1, e.2]
 rfl
 refine A6 h6 (C6 (o' := 0) rfl (Bd (c := Ae x.fHeld) s4 Cl rfl ?_))
 have s10 := s4.nl (ty := 22) ⟨_, _, rfl, rfl⟩
 refine Ki (s := bs0) s10 ⟨_, _, rfl, rfl, rfl, rfl⟩ (.here) O2 (by (simp only [zah, Az]; omega)) fun x11 H lx11 s12 => Ki (s := (bs0 ++ x.fHeld)) s12 ⟨_, _, rfl, rfl, rfl, rfl⟩ (.here) O2 (by (simp only [zah, Az]; omega)) fun x13 H lx13 s14 => D1 ?_
 have s15 := s14.nl (ty := 33) ⟨_, _, rfl, rfl⟩
 have e : Bi x b = fdB ((bs0 ++ x.fHeld) ++ b) (AfL ((bs0 ++ x.fHeld) ++ b)) ∧ B9 x b = Yh ((bs0 ++ x.fHeld) ++ b) := by
  unfold Bi B9 Qg; simp only [h5, h6, Kh, za2, zaw, zau, if_true]; (exact ⟨trivial, trivial⟩)
 rw [e.1, e.2]
 exact AdZ n hn ((bs0 ++ x.fHeld) ++ b) (by simp only [zah, Az]; omega) i3 (((bs0 ++ x.fHeld) ++ b).size / 2 + 1) _ 0 [] .nl x13 _ (by simp only [zah, Az]; omega) (by omega) (by omega) (by simp) rfl lx13 (s15.sel (.cons (.here) (.cons (.here) (.cons (.here) .nil))))
 refine Am (nT h5) (Am (nT h5) (D7 (nT h5) (Au rfl (Av s4 Cl rfl (Lf s4 rfl (.aggF (G2 _) .nil) (Zw (n + 13) (by omega) x hh) ⟨_, rfl, rfl⟩ (Hx (ty := 22) rfl (Ca x.fHeld) (A1 C2)) ?_)))))
 rintro _ _ H ⟨x16, _, _, lx16, rfl, rfl, ⟨_, rfl, ⟨rfl, rfl⟩⟩⟩ s17
 simp only [zai, zaq] at s17
 refine Cd (cs' := [x16, sb x.fBad]) s17 Cl (Aj (Aa lx16 rfl)) rfl (Cr rfl) rfl fun H s18 => Av s18 (.here) rfl (Al (Bj s18 rfl (.agg ⟨_, rfl, rfl⟩ (.own Cl (.sc .nil)) (.nl .nil)) ⟨(Jd ⟨_, rfl, rfl⟩ ⟨(Bh (Ca x.fHeld) (by decide)), ⟨trivial, trivial⟩⟩), ⟨A3, trivial⟩⟩) ?_)
 have e : Bi x b = (⟨x.fHeld, x.fBad⟩ : G9) ∧ B9 x b = [] := by
  unfold Bi B9 Qg fdB; simp only [h5, Kh, za2, za4, za6, zaL, zau, zaw, zaa, if_true, if_false, reduceIte]; (exact ⟨trivial, trivial⟩)
 rw [e.1, e.2]
 rfl
theorem Ad7 (x : G9) (b : ByteArray) (h0 : x.fHeld.size ≤ 1048576) (h1 : b.size ≤ 1048576) : (Bi x b).fHeld.size ≤ 1048576 ∧ Pa Cf (B9 x b) ≤ 1048576 := by
 unfold Bi B9
 cases h : Qg x with
 | false => exact ⟨h0, zay _⟩
 | true =>
  unfold Qg at h
  have hh := AfY (Bool.and_eq_true_iff.1 h).1
  have hs := zah (a := x.fHeld) (b := b)
  have hw := Alv (x.fHeld ++ b)
  have he := Aa6 (x.fHeld ++ b) ((x.fHeld ++ b).size / 2 + 1) 0 [] (by omega) (by omega)
  refine ⟨?_, ?_⟩
  show (fdB _ _).fHeld.size ≤ 1048576
  unfold fdB AfL
  split
  exact zay _
  rename_i g
  show (ByteArray.extract _ _ _).size ≤ 1048576
  rw [zap]
  omega
  show Pa Cf (Yh (x.fHeld ++ b)) ≤ 1048576
  omega
theorem AcU (n : Nat) (hn : 1048576 < n) (x0 : G9) (x1 : ByteArray) (k0 : Ab1 x0) (k1 : okS x1) (b0 : Ip x0 ≤ 1048576) (b1 : x1.size ≤ 1048576) : Cb E0 (n + 17) 43 41 [.agg (Bf x0), Ae x1] = some (.tup [.agg (Bf (Bi x0 x1)), Bl Ag (B9 x0 x1)]) := AfE (n + 2) (by omega) x0 x1 (by unfold Ip at b0; omega) b1
theorem W0 (n : Nat) (hn : 1048576 < n) (x0 : G9) (x1 : ByteArray) (k0 : Ab1 x0) (k1 : okS x1) (b0 : Ip x0 ≤ 1048576) (b1 : x1.size ≤ 1048576) : Cb E0 (n + 17) 43 42 [.agg (Bf x0), Ae x1] = some (.tup [.agg (Bf (Bi x0 x1)), Bl Ag (B9 x0 x1)]) := Af1 (n + 2) (by omega) x0 x1 (by unfold Ip at b0; omega) b1
theorem AbE (x0 : G9) (x1 : ByteArray) (b0 : Ip x0 ≤ 1048576) (b1 : x1.size ≤ 1048576) : Ip (Bi x0 x1) ≤ 1048576 ∧ AiL (Bi x0 x1) := by
 have h : Ip (Bi x0 x1) ≤ 1048576 := by
  have := (Ad7 x0 x1 (by unfold Ip at b0; omega) b1).1
  unfold Ip
  omega
 exact ⟨h, AiM _ h⟩
theorem AbF (x0 : G9) (x1 : ByteArray) (b0 : Ip x0 ≤ 1048576) (b1 : x1.size ≤ 1048576) : Pa Cf (B9 x0 x1) ≤ 1048576 ∧ ((B9 x0 x1).length ≤ 1048576 ∧ ∀ y ∈ B9 x0 x1, S2 y) :=
 have h := (Ad7 x0 x1 (by unfold Ip at b0; omega) b1).2
 ⟨h, App S2 AfD _ h⟩
end
end Go.Proofs.YtlcpigdmekgajaaGreatDoor.Abs
namespace Go.Proofs.YtlcpigdmekgajaaGreatDoor.Abs
open _root_.List renaming getElem?_eq_some_iff → zac
open Go
set_option linter.unusedVariables false
set_option linter.unusedSimpArgs false
theorem Air (n : Nat) (hn : 1048576 < n) (x0 : G9) (x1 : ByteArray) (k0 : Ab1 x0) (k1 : okS x1) : Cb E0 (n + 30) 4 8 [.agg (Bf x0), Ae x1] = some (.sc (.bool true)) := by
 rw [At, Aon, f8]
 simp only [Kw, Pd, Gb, Km, Eu, Id, Pe, D6, Hz, Adg, Fo, Pr.gT, Pr.gF, Pr.hT, Pr.hF, Pr.kT, Pr.kF, Gx]
 refine AbS (G2 x0) fun i2 i2E B1 => AkO (cells := Ba x1) rfl fun b1 => Kp B1 (Gs x0) (AoX rfl (Co (Rd _ (G2 x0)) (Co (Iv _ _) G7)) (Alr (n + 27) (by omega) _ x0 k0 _ (by omega) (by omega)) (by omega) rfl fun b0 => ?_)
 have c4 := Adn (x0)
 have s3w : Ip x0 ≤ 1048576 := by omega
 have s3 := AiM x0 s3w
 have c6 := Nn (x1)
 have s5w : x1.size ≤ 1048576 := by omega
 have s5 := s5w
 have c7 := Adn (Bi x0 x1)
 obtain ⟨s8w, s8⟩ := AbE x0 x1 (by omega) (by omega)
 have c9 := Vz (fs := Ih) (wt := Cf) (B9 x0 x1) (fun y _ => rfl) (fun y _ => Aek y)
 obtain ⟨s10w, s10⟩ := AbF x0 x1 (by omega) (by omega)
 refine Kp B1 (Gs x0) (Aav rfl (Co (Rd _ (G2 x0)) G7) (Vj (n + 27) (by omega) x0 (by omega)) Ux fun y14 X12 N11 n13 a15 => ?_)
 have o16 : i2 < N11 := by have := (zac.1 B1).1; omega
 replace B1 := Cm B1 X12
 refine Vf rfl (Co (J9 _ _ _) G7) (N1 (n + 28) (by omega) x1 (by omega)) fun y20 X18 N17 n19 a21 => ?_
 have o22 : i2 < N17 := by have := (zac.1 B1).1; omega
 have o23 : N11 + En (Bf (x0)) ≤ N17 := by have := a15.2.1; omega
 replace B1 := Cm B1 X18
 replace a15 := a15.grow X18
 refine AcJ rfl (Co (a15.vw (Ju 5 (x0))) (Co (a21.vw (G4 (d := 6) Ja (x1))) G7)) (AcU (n + 12) (by omega) x0 x1 k0 k1 (by omega) (by omega)) rfl fun ys27 X25 N24 n26 a28 => ?_
 have o29 : i2 < N24 := by have := (zac.1 B1).1; omega
 replace B1 := Cm B1 X25
 obtain ⟨y30, ys31, rfl, a32, a33⟩ := a28.cons
 have nb34 : G3 (.agg (Bf (Bi x0 x1))) = En (Bf (Bi x0 x1)) := rfl
 obtain ⟨y35, ys36, rfl, a37, a38⟩ := a33.cons
 obtain rfl := a38.nil
 refine Zl rfl ?_
 obtain ⟨ys39, rfl, a40⟩ := a32.agg Ux
 refine Zl rfl (Aaw rfl (a40.len.trans (Gs _)) (a40.leaf (G2 _)) fun i42 i42E B41 => ?_)
 have o43 : i2 < i42 := by have := (zac.1 B1).1; omega
 have o44 : N24 + En (Bf (Bi x0 x1)) ≤ i42 := by have := a40.2.1; omega
 have o45 : (N24 + G3 (.agg (Bf (Bi x0 x1)))) + G3 (Bl Ag (B9 x0 x1)) ≤ i42 := by have := a37.2.1; omega
 replace B1 := Cm B1 [⟨ys39, true, true⟩]
 replace a40 := a40.grow [⟨ys39, true, true⟩]
 replace a37 := a37.grow [⟨ys39, true, true⟩]
 refine Kp B1 (Gs x0) (Aav rfl (Co (Rd _ (G2 x0)) G7) (Vj (n + 27) (by omega) x0 (by omega)) Ux fun y49 X47 N46 n48 a50 => ?_)
 have o51 : i2 < N46 := by have := (zac.1 B1).1; omega
 have o52 : N24 + En (Bf (Bi x0 x1)) ≤ N46 := by have := a40.2.1; omega
 have o53 : (N24 + G3 (.agg (Bf (Bi x0 x1)))) + G3 (Bl Ag (B9 x0 x1)) ≤ N46 := by have := a37.2.1; omega
 have o54 : i42 < N46 := by have := (zac.1 B41).1; omega
 replace B1 := Cm B1 X47
 replace a40 := a40.grow X47
 replace a37 := a37.grow X47
 replace B41 := Cm B41 X47
 refine Aaw rfl (a50.len.trans (Gs _)) (a50.leaf (G2 _)) fun i56 i56E B55 => ?_
 have o57 : i2 < i56 := by have := (zac.1 B1).1; omega
 have o58 : N24 + En (Bf (Bi x0 x1)) ≤ i56 := by have := a40.2.1; omega
 have o59 : (N24 + G3 (.agg (Bf (Bi x0 x1)))) + G3 (Bl Ag (B9 x0 x1)) ≤ i56 := by have := a37.2.1; omega
 have o60 : i42 < i56 := by have := (zac.1 B41).1; omega
 have o61 : N46 + En (Bf (x0)) ≤ i56 := by have := a50.2.1; omega
 replace B1 := Cm B1 [⟨y49, true, true⟩]
 replace a40 := a40.grow [⟨y49, true, true⟩]
 replace a37 := a37.grow [⟨y49, true, true⟩]
 replace B41 := Cm B41 [⟨y49, true, true⟩]
 replace a50 := a50.grow [⟨y49, true, true⟩]
 refine Vf rfl (Co (J9 _ _ _) G7) (N1 (n + 28) (by omega) x1 (by omega)) fun y65 X63 N62 n64 a66 => ?_
 have o67 : i2 < N62 := by have := (zac.1 B1).1; omega
 have o68 : N24 + En (Bf (Bi x0 x1)) ≤ N62 := by have := a40.2.1; omega
 have o69 : (N24 + G3 (.agg (Bf (Bi x0 x1)))) + G3 (Bl Ag (B9 x0 x1)) ≤ N62 := by have := a37.2.1; omega
 have o70 : i42 < N62 := by have := (zac.1 B41).1; omega
 have o71 : N46 + En (Bf (x0)) ≤ N62 := by have := a50.2.1; omega
 have o72 : i56 < N62 := by have := (zac.1 B55).1; omega
 replace B1 := Cm B1 X63
 replace a40 := a40.grow X63
 replace a37 := a37.grow X63
 replace B41 := Cm B41 X63
 replace a50 := a50.grow X63
 replace B55 := Cm B55 X63
 refine Kp B55 (a50.len.trans (Gs _)) (AcJ rfl (Co (a50.vw (Ju 5 (x0))) (Co (a66.vw (G4 (d := 6) Ja (x1))) G7)) (W0 (n + 12) (by omega) x0 x1 k0 k1 (by omega) (by omega)) rfl fun ys76 X74 N73 n75 a77 => ?_)
 have o78 : i2 < N73 := by have := (zac.1 B1).1; omega
 have o79 : N24 + En (Bf (Bi x0 x1)) ≤ N73 := by have := a40.2.1; omega
 have o80 : (N24 + G3 (.agg (Bf (Bi x0 x1)))) + G3 (Bl Ag (B9 x0 x1)) ≤ N73 := by have := a37.2.1; omega
 have o81 : i42 < N73 := by have := (zac.1 B41).1; omega
 have o82 : N46 + En (Bf (x0)) ≤ N73 := by have := a50.2.1; omega
 have o83 : i56 < N73 := by have := (zac.1 B55).1; omega
 have o84 : N62 + G3 (Ae (x1)) ≤ N73 := by have := a66.2.1; omega
 replace B1 := Cm B1 X74
 replace a40 := a40.grow X74
 replace a37 := a37.grow X74
 replace B41 := Cm B41 X74
 replace a50 := a50.grow X74
 replace B55 := Cm B55 X74
 replace a66 := a66.grow X74
 obtain ⟨y85, ys86, rfl, a87, a88⟩ := a77.cons
 have nb89 : G3 (.agg (Bf (Bi x0 x1))) = En (Bf (Bi x0 x1)) := rfl
 obtain ⟨y90, ys91, rfl, a92, a93⟩ := a88.cons
 obtain rfl := a93.nil
 refine Zl rfl ?_
 obtain ⟨ys94, rfl, a95⟩ := a87.agg Ux
 refine Zl rfl (Aaw rfl (a95.len.trans (Gs _)) (a95.leaf (G2 _)) fun i97 i97E B96 => ?_)
 have o98 : i2 < i97 := by have := (zac.1 B1).1; omega
 have o99 : N24 + En (Bf (Bi x0 x1)) ≤ i97 := by have := a40.2.1; omega
 have Apa : (N24 + G3 (.agg (Bf (Bi x0 x1)))) + G3 (Bl Ag (B9 x0 x1)) ≤ i97 := by have := a37.2.1; omega
 have o101 : i42 < i97 := by have := (zac.1 B41).1; omega
 have Apb : N46 + En (Bf (x0)) ≤ i97 := by have := a50.2.1; omega
 have AnF : i56 < i97 := by have := (zac.1 B55).1; omega
 have o104 : N62 + G3 (Ae (x1)) ≤ i97 := by have := a66.2.1; omega
 have Apc : N73 + En (Bf (Bi x0 x1)) ≤ i97 := by have := a95.2.1; omega
 have o106 : (N73 + G3 (.agg (Bf (Bi x0 x1)))) + G3 (Bl Ag (B9 x0 x1)) ≤ i97 := by have := a92.2.1; omega
 replace B1 := Cm B1 [⟨ys94, true, true⟩]
 replace a40 := a40.grow [⟨ys94, true, true⟩]
 replace a37 := a37.grow [⟨ys94, true, true⟩]
 replace B41 := Cm B41 [⟨ys94, true, true⟩]
 replace a50 := a50.grow [⟨ys94, true, true⟩]
 replace B55 := Cm B55 [⟨ys94, true, true⟩]
 replace a66 := a66.grow [⟨ys94, true, true⟩]
 replace a95 := a95.grow [⟨ys94, true, true⟩]
 replace a92 := a92.grow [⟨ys94, true, true⟩]
 refine Kp B96 (a95.len.trans (Gs _)) (Kp B41 (a40.len.trans (Gs _)) (Un rfl (Co (a95.vw (Ju 5 (Bi x0 x1))) (Co (a40.vw (Ju 5 (Bi x0 x1))) G7)) (U7 (n + 27) (by omega) _ (Bi x0 x1) s8w) (P4 (K6 (K6 (K6 (Un rfl (Co (a92.vw (Hr (d := 7) Gi Jm (Ij 5) (B9 x0 x1))) (Co (a37.vw (Hr (d := 7) Gi Jm (Ij 5) (B9 x0 x1))) G7)) (Pn (n + 25) (by omega) _ (B9 x0 x1) s10w) (K6 (P4 (AdM (W8 (Kp B55 (a50.len.trans (Gs _)) (Kp B1 (Gs x0) (Aav rfl (Co (Rd _ (G2 x0)) G7) (Vj (n + 27) (by omega) x0 (by omega)) Ux fun y110 X108 N107 n109 a111 => ?_))))))))))))))
 have o112 : i2 < N107 := by have := (zac.1 B1).1; omega
 have Apd : N24 + En (Bf (Bi x0 x1)) ≤ N107 := by have := a40.2.1; omega
 have o114 : (N24 + G3 (.agg (Bf (Bi x0 x1)))) + G3 (Bl Ag (B9 x0 x1)) ≤ N107 := by have := a37.2.1; omega
 have o115 : i42 < N107 := by have := (zac.1 B41).1; omega
 have o116 : N46 + En (Bf (x0)) ≤ N107 := by have := a50.2.1; omega
 have o117 : i56 < N107 := by have := (zac.1 B55).1; omega
 have o118 : N62 + G3 (Ae (x1)) ≤ N107 := by have := a66.2.1; omega
 have o119 : N73 + En (Bf (Bi x0 x1)) ≤ N107 := by have := a95.2.1; omega
 have o120 : (N73 + G3 (.agg (Bf (Bi x0 x1)))) + G3 (Bl Ag (B9 x0 x1)) ≤ N107 := by have := a92.2.1; omega
 have o121 : i97 < N107 := by have := (zac.1 B96).1; omega
 replace B1 := Cm B1 X108
 replace a40 := a40.grow X108
 replace a37 := a37.grow X108
 replace B41 := Cm B41 X108
 replace a50 := a50.grow X108
 replace B55 := Cm B55 X108
 replace a66 := a66.grow X108
 replace a95 := a95.grow X108
 replace a92 := a92.grow X108
 replace B96 := Cm B96 X108
 refine Un rfl (Co (a50.vw (Ju 5 (x0))) (Co (a111.vw (Ju 5 (x0))) G7)) (U7 (n + 27) (by omega) _ (x0) s3w) (P4 (W8 (Vf rfl (Co (J9 _ _ _) G7) (N1 (n + 28) (by omega) x1 (by omega)) fun y125 X123 N122 n124 a126 => ?_)))
 have o127 : i2 < N122 := by have := (zac.1 B1).1; omega
 have o128 : N24 + En (Bf (Bi x0 x1)) ≤ N122 := by have := a40.2.1; omega
 have Ape : (N24 + G3 (.agg (Bf (Bi x0 x1)))) + G3 (Bl Ag (B9 x0 x1)) ≤ N122 := by have := a37.2.1; omega
 have Apf : i42 < N122 := by have := (zac.1 B41).1; omega
 have Apg : N46 + En (Bf (x0)) ≤ N122 := by have := a50.2.1; omega
 have AkS : i56 < N122 := by have := (zac.1 B55).1; omega
 have AkT : N62 + G3 (Ae (x1)) ≤ N122 := by have := a66.2.1; omega
 have AkU : N73 + En (Bf (Bi x0 x1)) ≤ N122 := by have := a95.2.1; omega
 have o135 : (N73 + G3 (.agg (Bf (Bi x0 x1)))) + G3 (Bl Ag (B9 x0 x1)) ≤ N122 := by have := a92.2.1; omega
 have o136 : i97 < N122 := by have := (zac.1 B96).1; omega
 replace B1 := Cm B1 X123
 replace a40 := a40.grow X123
 replace a37 := a37.grow X123
 replace B41 := Cm B41 X123
 replace a50 := a50.grow X123
 replace B55 := Cm B55 X123
 replace a66 := a66.grow X123
 replace a95 := a95.grow X123
 replace a92 := a92.grow X123
 replace B96 := Cm B96 X123
 refine Un rfl (Co (a66.vw (G4 (d := 6) Ja (x1))) (Co (a126.vw (G4 (d := 6) Ja (x1))) G7)) (Np (n + 28) (by omega) _ (x1) s5w) (P4 (W8 (Kp B55 (a50.len.trans (Gs _)) (Abx (AdP (n + 26) (by omega)) rfl a50 (AaD _ s3) (by omega) (by omega) fun G137 a139 q138 => ?_))))
 replace B1 := Hm B1 q138 (by omega)
 replace a40 := a40.kept q138 (by omega)
 replace a37 := a37.kept q138 (by omega)
 replace B41 := Hm B41 q138 (by omega)
 replace a66 := a66.kept q138 (by omega)
 replace a95 := a95.kept q138 (by omega)
 replace a92 := a92.kept q138 (by omega)
 replace B96 := Hm B96 q138 (by omega)
 refine AdL (fs := Fc) (t := (Ae (x1))) (P5 (n + 27) (by omega)) ⟨_, _, rfl⟩ a66 (Qi _ s5) (by omega) (by omega) fun G140 a142 q141 => ?_
 replace B1 := Hm B1 q141 (by omega)
 replace a40 := a40.kept q141 (by omega)
 replace a37 := a37.kept q141 (by omega)
 replace B41 := Hm B41 q141 (by omega)
 replace a95 := a95.kept q141 (by omega)
 replace a92 := a92.kept q141 (by omega)
 replace B96 := Hm B96 q141 (by omega)
 refine AnC (by omega) (K6 (Kp B96 (a95.len.trans (Gs _)) (K6 (Kp B41 (a40.len.trans (Gs _)) (K6 (Un rfl (Co (a95.vw (Ju 5 (Bi x0 x1))) (Co (a40.vw (Ju 5 (Bi x0 x1))) G7)) (U7 (n + 27) (by omega) _ (Bi x0 x1) s8w) (K6 (P4 (AdM (K6 (K6 (K6 (Un rfl (Co (a92.vw (Hr (d := 7) Gi Jm (Ij 5) (B9 x0 x1))) (Co (a37.vw (Hr (d := 7) Gi Jm (Ij 5) (B9 x0 x1))) G7)) (Pn (n + 25) (by omega) _ (B9 x0 x1) s10w) (K6 (P4 (AdM (W8 (Kp B96 (a95.len.trans (Gs _)) (Abx (AdP (n + 26) (by omega)) rfl a95 (AaD _ s8) (by omega) (by omega) fun G143 a145 q144 => ?_)))))))))))))))))))
 replace B1 := Hm B1 q144 (by omega)
 replace a40 := a40.kept q144 (by omega)
 replace a37 := a37.kept q144 (by omega)
 replace B41 := Hm B41 q144 (by omega)
 replace a92 := a92.kept q144 (by omega)
 replace B96 := Hm B96 q144 (by omega)
 refine AdL (fs := Ih) (t := (Bl Ag (B9 x0 x1))) (AcM (n + 26) (by omega)) ⟨_, _, rfl⟩ a92 (Vl _ s10.1 fun y hy => Yl y (s10.2 y hy)) (by omega) (by omega) fun G146 a148 q147 => ?_
 replace B1 := Hm B1 q147 (by omega)
 replace a40 := a40.kept q147 (by omega)
 replace a37 := a37.kept q147 (by omega)
 replace B41 := Hm B41 q147 (by omega)
 replace a145 := a145.kept q147 (by rw [Md]; omega)
 replace B96 := Hm B96 q147 (by omega)
 refine Kp B96 (a95.len.trans (Gs _)) (Abw (AdD (n + 26) (by omega)) (a145.vw (Ab3 _ _ (Ju 5 (Bi x0 x1)))) (AaD _ s8) (by omega) (by omega) (AdK (fs := Ih) (t := (Bl Ag (B9 x0 x1))) (Wz (n + 26) (by omega)) ⟨_, _, rfl⟩ (a148.vw (Aa1 8 _ _ _ _ (Hr (d := 7) Gi Jm (Ij 5) (B9 x0 x1)))) (Vl _ s10.1 fun y hy => Yl y (s10.2 y hy)) (by omega) (by omega) (Aiw (W8 (Kp B1 (Gs x0) (Aav rfl (Co (Rd _ (G2 x0)) G7) (Vj (n + 27) (by omega) x0 (by omega)) Ux fun y152 X150 N149 n151 a153 => ?_))))))
 have o154 : N24 + En (Bf (Bi x0 x1)) ≤ N149 := by have := a40.2.1; omega
 have o155 : (N24 + G3 (.agg (Bf (Bi x0 x1)))) + G3 (Bl Ag (B9 x0 x1)) ≤ N149 := by have := a37.2.1; omega
 have o156 : i42 < N149 := by have := (zac.1 B41).1; omega
 have o157 : N73 + En (Bf (Bi x0 x1)) ≤ N149 := by have := a145.2.1; rw [Md] at this; omega
 have o158 : (N73 + G3 (.agg (Bf (Bi x0 x1)))) + G3 (Bl Ag (B9 x0 x1)) ≤ N149 := by have := a148.2.1; rw [Mb] at this; omega
 have o159 : i97 < N149 := by have := (zac.1 B96).1; omega
 replace a40 := a40.grow X150
 replace a37 := a37.grow X150
 replace B41 := Cm B41 X150
 replace a145 := a145.grow X150
 replace a148 := a148.grow X150
 replace B96 := Cm B96 X150
 refine Vf rfl (Co (J9 _ _ _) G7) (N1 (n + 28) (by omega) x1 (by omega)) fun y163 X161 N160 n162 a164 => ?_
 have o165 : N24 + En (Bf (Bi x0 x1)) ≤ N160 := by have := a40.2.1; omega
 have o166 : (N24 + G3 (.agg (Bf (Bi x0 x1)))) + G3 (Bl Ag (B9 x0 x1)) ≤ N160 := by have := a37.2.1; omega
 have o167 : i42 < N160 := by have := (zac.1 B41).1; omega
 have o168 : N73 + En (Bf (Bi x0 x1)) ≤ N160 := by have := a145.2.1; rw [Md] at this; omega
 have o169 : (N73 + G3 (.agg (Bf (Bi x0 x1)))) + G3 (Bl Ag (B9 x0 x1)) ≤ N160 := by have := a148.2.1; rw [Mb] at this; omega
 have o170 : i97 < N160 := by have := (zac.1 B96).1; omega
 have o171 : N149 + En (Bf (x0)) ≤ N160 := by have := a153.2.1; omega
 replace a40 := a40.grow X161
 replace a37 := a37.grow X161
 replace B41 := Cm B41 X161
 replace a145 := a145.grow X161
 replace a148 := a148.grow X161
 replace B96 := Cm B96 X161
 replace a153 := a153.grow X161
 refine AcJ rfl (Co (a153.vw (Ju 5 (x0))) (Co (a164.vw (G4 (d := 6) Ja (x1))) G7)) (W0 (n + 12) (by omega) x0 x1 k0 k1 (by omega) (by omega)) rfl fun ys175 X173 N172 n174 a176 => ?_
 have o177 : N24 + En (Bf (Bi x0 x1)) ≤ N172 := by have := a40.2.1; omega
 have o178 : (N24 + G3 (.agg (Bf (Bi x0 x1)))) + G3 (Bl Ag (B9 x0 x1)) ≤ N172 := by have := a37.2.1; omega
 have o179 : i42 < N172 := by have := (zac.1 B41).1; omega
 have o180 : N73 + En (Bf (Bi x0 x1)) ≤ N172 := by have := a145.2.1; rw [Md] at this; omega
 have o181 : (N73 + G3 (.agg (Bf (Bi x0 x1)))) + G3 (Bl Ag (B9 x0 x1)) ≤ N172 := by have := a148.2.1; rw [Mb] at this; omega
 have o182 : i97 < N172 := by have := (zac.1 B96).1; omega
 replace a40 := a40.grow X173
 replace a37 := a37.grow X173
 replace B41 := Cm B41 X173
 replace a145 := a145.grow X173
 replace a148 := a148.grow X173
 replace B96 := Cm B96 X173
 obtain ⟨y183, ys184, rfl, a185, a186⟩ := a176.cons
 have nb187 : G3 (.agg (Bf (Bi x0 x1))) = En (Bf (Bi x0 x1)) := rfl
 obtain ⟨y188, ys189, rfl, a190, a191⟩ := a186.cons
 obtain rfl := a191.nil
 refine Zl rfl ?_
 obtain ⟨ys192, rfl, a193⟩ := a185.agg Ux
 refine Zl rfl (Aaw rfl (a193.len.trans (Gs _)) (a193.leaf (G2 _)) fun i195 i195E B194 => ?_)
 have o196 : N24 + En (Bf (Bi x0 x1)) ≤ i195 := by have := a40.2.1; omega
 have o197 : (N24 + G3 (.agg (Bf (Bi x0 x1)))) + G3 (Bl Ag (B9 x0 x1)) ≤ i195 := by have := a37.2.1; omega
 have o198 : i42 < i195 := by have := (zac.1 B41).1; omega
 have o199 : N73 + En (Bf (Bi x0 x1)) ≤ i195 := by have := a145.2.1; rw [Md] at this; omega
 have o200 : (N73 + G3 (.agg (Bf (Bi x0 x1)))) + G3 (Bl Ag (B9 x0 x1)) ≤ i195 := by have := a148.2.1; rw [Mb] at this; omega
 have o201 : i97 < i195 := by have := (zac.1 B96).1; omega
 have o202 : N172 + En (Bf (Bi x0 x1)) ≤ i195 := by have := a193.2.1; omega
 have o203 : (N172 + G3 (.agg (Bf (Bi x0 x1)))) + G3 (Bl Ag (B9 x0 x1)) ≤ i195 := by have := a190.2.1; omega
 replace a40 := a40.grow [⟨ys192, true, true⟩]
 replace a37 := a37.grow [⟨ys192, true, true⟩]
 replace B41 := Cm B41 [⟨ys192, true, true⟩]
 replace a145 := a145.grow [⟨ys192, true, true⟩]
 replace a148 := a148.grow [⟨ys192, true, true⟩]
 replace B96 := Cm B96 [⟨ys192, true, true⟩]
 replace a193 := a193.grow [⟨ys192, true, true⟩]
 replace a190 := a190.grow [⟨ys192, true, true⟩]
 refine Kp B194 (a193.len.trans (Gs _)) (Kp B41 (a40.len.trans (Gs _)) (Un rfl (Co (a193.vw (Ju 5 (Bi x0 x1))) (Co (a40.vw (Ju 5 (Bi x0 x1))) G7)) (U7 (n + 27) (by omega) _ (Bi x0 x1) s8w) (P4 (K6 (K6 (K6 (Un rfl (Co (a190.vw (Hr (d := 7) Gi Jm (Ij 5) (B9 x0 x1))) (Co (a37.vw (Hr (d := 7) Gi Jm (Ij 5) (B9 x0 x1))) G7)) (Pn (n + 25) (by omega) _ (B9 x0 x1) s10w) (K6 (P4 (AdM (W8 (Kp B96 (a95.len.trans (Gs _)) (Abw (AdD (n + 26) (by omega)) (a145.vw (Ab3 _ _ (Ju 5 (Bi x0 x1)))) (AaD _ s8) (by omega) (by omega) (AdK (fs := Ih) (t := (Bl Ag (B9 x0 x1))) (Wz (n + 26) (by omega)) ⟨_, _, rfl⟩ (a148.vw (Aa1 8 _ _ _ _ (Hr (d := 7) Gi Jm (Ij 5) (B9 x0 x1)))) (Vl _ s10.1 fun y hy => Yl y (s10.2 y hy)) (by omega) (by omega) (Aiw (W8 ?_))))))))))))))))
 rfl
end Go.Proofs.YtlcpigdmekgajaaGreatDoor.Abs
namespace Go.Proofs.YtlcpigdmekgajaaGreatDoor.fnExactFeed
open _root_.Option renaming map_eq_some_iff → zaM
open Go Go.Shelf Go.Lib Go.ChangeShapes Go.WideShapes Go.ChangeAt Go.RowKit
open Go.Proofs.YtlcpigdmekgajaaGreatDoor.Abs
set_option linter.unusedVariables false
theorem own : ownKnob Tryz.prog.godebug = none := by kernel_rfl
theorem AkJ : laidOutB Tryz.prog = true := by kernel_rfl
theorem types : ([24, 22].all (tyB Ak 14)) = true := by kernel_rfl
theorem AiG : ([24, 22].all fun t => Tryz.prog.readableRec t && decide (t < Tryz.prog.types.size)) = true := by kernel_rfl
theorem Apl {xs : List AV} (h : AnG Ak 14 [24, 22] xs) : ∃ n, Cb E0 n 4 8 xs = some (.sc (.bool true)) := by
 obtain ⟨y0, ys0, rfl, ⟨cs0, h0, rfl⟩, h⟩ := h
 obtain ⟨y1, ys1, rfl, ⟨cs1, h1, rfl⟩, h⟩ := h
 obtain rfl := h
 obtain ⟨x0, rfl, k0⟩ := AkW h0
 obtain ⟨x1, rfl, k1⟩ := Xj ⟨_, rfl, rfl, rfl, rfl, rfl, rfl⟩ h1
 exact ⟨_, Air 1048577 (by omega) x0 x1 k0 k1⟩
def wArgs : Array Value := #[.agg #[.slice none 0 0, .bool false], .slice none 0 0]
noncomputable def Qu (os : Os) : World :=
 let w0 := World.holding Tryz.prog os ⟨#[], #[], []⟩
 let put (h : Array Obj) (g : Nat) (cs : Array Value) : Array Obj := h.modify g fun
  | .cells _ t frozen => .cells cs t frozen
  | o => o
 let h1 := put w0.heap 0 (Lib.firstTab.map fun z => Value.int .u8 z).toArray
 let h2 := put h1 1 ((List.range 16).flatMap fun i => [Value.int .u8 (Lib.accLo i), Value.int .u8 (Lib.accHi i)]).toArray
 { w0 with heap := h2 }
theorem Aiq (os : Os) (args : Array Value) : laidMet Tryz.prog Rows.fnExactFeedRow.laid ((Qu os).forCall (fun _ _ => 0) ⟨#[], args, []⟩).memory :=
 (LaidIn.of_run (l := Rows.fnExactFeedRow.laid) [0, 1] 8 (by kernel_rfl) (by kernel_rfl) (by kernel_rfl) (by kernel_rfl)).met
set_option maxRecDepth 100000 in
theorem AbV (os : Os) {H : Type} (enc : TypeId × Value → H) :
  (OpenSpec.ofChange Rows.fnExactFeedSpec).preRow enc Tryz.prog Tryz.f8 Rows.fnExactFeedRow.domain false Rows.fnExactFeedRow.laid ((Qu os).forCall (fun _ _ => 0) ⟨#[], wArgs, []⟩).memory wArgs := by
 have hw : ((DataW.whole enc Tryz.prog ((Qu os).forCall (fun _ _ => 0) ⟨#[], wArgs, []⟩).memory Tryz.f8.params.toList (OpenSpec.ofChange Rows.fnExactFeedSpec).vars false wArgs.toList 8).map (fun x => x.2.1)) = some [] := by kernel_rfl
 obtain ⟨⟨x1, x2, x3⟩, hx, hx1⟩ := zaM.1 hw
 simp only at hx1
 subst hx1
 exact OpenSpec.preRow_of_cond 8 hx rfl (fun k hk => by cases hk) rfl (Aiq os _)
set_option maxRecDepth 100000 in
set_option maxHeartbeats 2000000 in
theorem lifted (os : Os) (started : os.Started) (H : Type) (enc : TypeId × Value → H) (F : Stop.Interp) :
  ReturnsInHanded {} Tryz.checked os 8 .any ((OpenSpec.ofChange Rows.fnExactFeedSpec).preRow enc Tryz.prog Tryz.f8 Rows.fnExactFeedRow.domain false Rows.fnExactFeedRow.laid) (((OpenSpec.ofChange Rows.fnExactFeedSpec).at F).post enc Tryz.prog Tryz.f8 false true false false) := by
 refine returnsInHanded_of_row (C := Tryz.checked) (s := OpenSpec.ofChange Rows.fnExactFeedSpec) own started (by kernel_rfl) Tryz.func8
  (witness_row_atRef (enc := enc) (C := Tryz.checked) false (Qu os) wArgs rfl (by kernel_rfl) (by kernel_rfl) (by kernel_rfl) (AbV os enc)) ?_
 intro W base args ds gs before hval0 hW _ _ _ hL hS _
 have hval : ∀ (j : Nat) t v, Tryz.f8.params[j]? = some t → args[j]? = some v → Value.okWide Tryz.prog W .any base t v := hval0
 have hW' := hW
 obtain ⟨p, q, hA0, hV, rfl, hfz, hnd⟩ := hW
 have hA : DataW.TrodAll enc Tryz.prog W 0 (fun _ => true) true Tryz.f8.params.toList args.toList ds p := hA0
 rw [Tryz.params8] at hA hval
 obtain ⟨xs, hok, hl, hx⟩ := Vp AiR (n := 14) [24, 22] args.toList ds p hA (fun j t v ht hv => hval j t v (by simpa using ht) (by simpa using hv)) types
 obtain ⟨m, hm⟩ := Apl hok
 have htab0 := utf8Tabs_of_readsT (U8Types.of196 Tryz.laysValid) ⟨by kernel_rfl, by kernel_rfl, by kernel_rfl, by kernel_rfl, by kernel_rfl, by kernel_rfl, by kernel_rfl⟩ (Pinned.utf8First_eq ▸ Lib.laidMet.reads hL (.tail _ (.head _))) (Lib.laidMet.reads hL (.head _))
 have htab : J0 W := ⟨htab0, cell_of_shapedOpen_int (zero := #[.int .i64 0]) hS (of_decide_eq_true (by kernel_rfl)) (by kernel_rfl) rfl (by kernel_rfl) (by kernel_rfl) Tryz.underlying3⟩
 have hc := AfJ ApS hm (w := W) htab hl hx
 have hA1 := hA
 obtain ⟨v0, vs0, d0, ds0, p0, q0, hargs, rfl, rfl, g0, r0⟩ := trodAll_cons hA
 obtain ⟨v1, vs1, d1, ds1, p1, q1, rfl, rfl, rfl, g1, r1⟩ := trodAll_cons r0
 obtain ⟨rfl, rfl, rfl⟩ := trodAll_nil r1
 obtain ⟨rfl, rfl⟩ := trodVars_none hV
 have hc2 : Calls Tryz.prog 8 args W fun e W' => e = .returned (.bool true) ∧ Below W.heap.size W W' := by simpa using hc
 refine hc2.mono fun e W' ⟨he, bel⟩ => ?_
 subst he
 exact ⟨_, rfl, _, _, _, [], _, [], hW', trodAll_mk1 (shut_bool Tryz.underlying4 _), Rc AkJ bel AiG hA1, rfl, bel.frame _, fun h => by cases h⟩
end Go.Proofs.YtlcpigdmekgajaaGreatDoor.fnExactFeed
