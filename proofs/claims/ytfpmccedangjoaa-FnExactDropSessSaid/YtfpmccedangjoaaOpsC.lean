/- Each operation does in memory what it does abstractly: numbers, bools, strings, bytes. -/
import Derived.Test.YtfpmccedangjoaaOpsB
import Derived.Laws.BytesString
import Derived.Laws.IdiomStrings
set_option linter.unusedVariables false
namespace Go.Proofs.Ytfpmccedangjoaa.Abs
open Go Go.RowKit

variable {P : Program} {β : Type}

theorem str_sound {op : BinOp} {t : TypeId} {a b : ByteArray} {v : Value} (w : World) (h : binS op a b = some v) : (Go.binOp op t (.string a) (.string b)).run P w = .ok v w := by
  by_cases ha : op = .add
  · subst ha
    simp only [binS] at h
    split at h
    · rename_i hz
      cases h
      have e : IntKind.i64.max = 9223372036854775807 := by decide
      have : ¬ (((a.size + b.size : Nat) : Int) > IntKind.i64.max) := by rw [e]; omega
      simp only [Go.binOp, Op.stringOp, if_neg this, Sem.run_pure]
    · cases h
  · cases op <;> simp only [binS] at h
    all_goals first
      | (cases h; done)
      | (exact absurd rfl ha)
      | (cases h; simp [Go.binOp, Op.stringOp])

theorem bin_sound {op : BinOp} (t : TypeId) (x y : Operand) {w0 : World} {φ : Phi} {w : World} {p q : AV} {u v : Value} (hx : VR w0 φ p u) (hy : VR w0 φ q v) {k : AV → Option β} {r : β}
    (h : pBin op p q k = some r) : Got w0 φ k r fun z => ∀ w, (do eqGuard op t x y u v; Go.binOp op t u v : Sem Value).run P w = .ok z w := by
  unfold pBin at h
  split at h
  · rename_i ka a kb b
    rw [VR] at hx hy
    subst hx
    subst hy
    have hg := run_binOp (P := P) (op := op) (t := t) (x := x) (y := y) (u := .int ka a) (v := .int kb b) (fun _ h => by cases h) (fun h => by cases h)
    split at h
    · rename_i hs
      obtain ⟨z, hz, hk⟩ := Option.bind_eq_some_iff.1 h
      have := fun w => int_sound (P := P) (op := op) (t := t) (ka := ka) (kb := kb) (a := a) (b := b) (v := z) w (by rw [if_pos hs]; exact hz)
      exact ⟨_, z, hk, VR_sc _ _ _, fun w => by simp only [Sem.run_bind, hg, Result.andThen_ok, this]⟩
    · rename_i hs
      split at h
      · rename_i he
        obtain ⟨z, hz, hk⟩ := Option.bind_eq_some_iff.1 h
        have := fun w => int_sound (P := P) (op := op) (t := t) (ka := ka) (kb := kb) (a := a) (b := b) (v := z) w (by rw [if_neg hs, if_pos he]; exact hz)
        exact ⟨_, z, hk, VR_sc _ _ _, fun w => by simp only [Sem.run_bind, hg, Result.andThen_ok, this]⟩
      · cases h
  · rename_i a b
    rw [VR] at hx hy
    subst hx
    subst hy
    have hg := run_binOp (P := P) (op := op) (t := t) (x := x) (y := y) (u := .string a) (v := .string b) (fun _ h => by cases h) (fun h => by cases h)
    obtain ⟨z, hz, hk⟩ := Option.bind_eq_some_iff.1 h
    have := fun w => str_sound (P := P) (op := op) (t := t) w hz
    exact ⟨_, z, hk, VR_sc _ _ _, fun w => by simp only [Sem.run_bind, hg, Result.andThen_ok, this]⟩
  · cases h

theorem binB_sound {op : BinOp} {t : TypeId} {i : TI} (ht : TOk P t i) (hb : i.isB = true) (x y : Operand) {w0 : World} {φ : Phi} {w : World} {p q : AV} {u v : Value} (hx : VR w0 φ p u) (hy : VR w0 φ q v) {k : AV → Option β} {r : β}
    (h : pBinB op p q k = some r) : Got w0 φ k r fun z => ∀ w, (do eqGuard op t x y u v; Go.binOp op t u v : Sem Value).run P w = .ok z w := by
  simp only [pBinB, Option.bind_eq_some_iff] at h
  obtain ⟨a, ha, b, hb', z, hz, hk⟩ := h
  have := asB_VR hx ha
  subst this
  have := asB_VR hy hb'
  subst this
  have hg := run_binOp (P := P) (op := op) (t := t) (x := x) (y := y) (u := .bool a) (v := .bool b) (fun _ h => by cases h) (fun h => by cases h)
  have he : ∀ w, (Op.equal t (.bool a) (.bool b)).run P w = .ok (a == b) w := by
    intro w
    have hun := fun w => run_underlying (desc_bool ht hb) w
    show (Op.equalIn (9999 + 1) t (.bool a) (.bool b)).run P w = _
    rw [Op.equalIn]
    simp [hun]
  refine ⟨_, z, hk, VR_sc _ _ _, fun w => ?_⟩
  cases op <;> simp only [binB] at hz <;> cases hz
  · simp only [Sem.run_bind, hg, Result.andThen_ok, Go.binOp, he, Sem.run_pure]
  · simp only [Sem.run_bind, hg, Result.andThen_ok, Go.binOp, he, Sem.run_pure]

theorem eqFields_sound {T : Nat → Option TI} (hT : TabOk P T) {w0 : World} {φ : Phi} (xs ys : Array Value) : ∀ (fs : List Field) (qs : List Nat) (e : Nat) (cs ds : List AV) (b : Bool), kindsOf T (fs.map fun q => (q.offset, q.type)) e = some qs → (∀ f ∈ fs, f.name ≠ "_") → eqCells qs cs ds = some b →
    VRs w0 φ cs (fun j => xs[e + j]?) → VRs w0 φ ds (fun j => ys[e + j]?) → ∀ w, (Op.eqFields 9999 xs ys fs).run P w = .ok b w
  | [], qs, e, cs, ds, b, hk, _, he, _, _, w => by
    cases hk
    cases cs <;> cases ds <;> simp [eqCells] at he
    subst he
    rfl
  | f :: fs, qs, e, cs, ds, b, hk, hn, he, hx, hy, w => by
    simp only [List.map_cons, kindsOf] at hk
    split at hk
    case h_2 => cases hk
    rename_i j ho hj
    have ho := Nat.eq_of_beq_eq_true ho
    split at hk
    case h_2 => cases hk
    rename_i q l hq hl
    cases hk
    match cs, ds, he, hx, hy with
    | .sc a :: cs, .sc a' :: ds, he, hx, hy =>
      simp only [eqCells] at he
      obtain ⟨r, hr, he⟩ := Option.bind_eq_some_iff.1 he
      rw [VRs] at hx hy
      obtain ⟨⟨u, x1, x2⟩, hx⟩ := hx
      obtain ⟨⟨u', y1, y2⟩, hy⟩ := hy
      rw [VR] at x2 y2
      subst x2
      subst y2
      have hft := hT _ _ hj
      obtain ⟨d, g1, g2⟩ := hft.desc
      have hna : j.isAgg = false := by
        simp only [kindQ] at hq
        cases d <;> simp_all [descOk]
      have pt : ∀ (zs : Array Value) (z : Value), zs[e + 0]? = some z → ∀ w, (part f.type zs f.offset).run P w = .ok z w := by
        intro zs z hz w
        rw [Nat.add_zero] at hz
        simp only [part, Sem.run_bind, hft.rAgg, hna, Result.andThen_ok, Bool.false_eq_true, if_false, ho, hz, Sem.run_pure]
      have heq : ∀ w, (Op.equalIn 9999 f.type u u').run P w = .ok r w := by
        intro w
        unfold eqCell at hr
        split at hr
        · rename_i ka x kb y
          split at hr
          · rename_i hkk
            subst hkk
            cases hr
            simp only [kindQ] at hq
            cases d <;> simp [descOk] at g2
            case int k' => exact run_equalIn_int w 9998 f.type _ k' _ _ g1
            all_goals (exfalso; simp_all)
          · cases hr
        · cases hr
          simp only [kindQ] at hq
          cases d <;> simp [descOk] at g2
          case string => exact run_equalIn_string w 9998 f.type _ _ g1
          all_goals (exfalso; simp_all)
        · cases hr
          simp only [kindQ] at hq
          cases d <;> simp [descOk] at g2
          case bool => exact run_equalIn_bool' w 9998 f.type _ _ g1
          all_goals (exfalso; simp_all)
        · cases hr
      simp only [Op.eqFields, hn f List.mem_cons_self, ne_eq, not_false_eq_true, if_true, Sem.run_bind, pt xs u x1, pt ys u' y1, Result.andThen_ok, heq]
      cases r
      · simp only [Bool.false_eq_true, if_false, Option.some.injEq] at he
        subst he
        simp [Sem.run_pure]
      · simp only [if_true] at he
        simp only [Bool.not_true, Bool.false_eq_true, if_false]
        refine eqFields_sound (w0 := w0) (φ := φ) hT xs ys fs l (e + 1) cs ds b hl (fun g hg => hn g (List.mem_cons_of_mem _ hg)) he ?_ ?_ w
        · simpa only [Nat.add_assoc, Nat.add_comm 1] using hx
        · simpa only [Nat.add_assoc, Nat.add_comm 1] using hy

theorem binA_sound {T : Nat → Option TI} (hT : TabOk P T) {op : BinOp} {t : TypeId} {i : TI} (ht : TOk P t i) (hq : i.eqs = true) {qs : List Nat} (hk : kindsOf T i.fields 0 = some qs) (x y : Operand) {w0 : World} {φ : Phi} {w : World} {p q : AV} {u v : Value} (hx : VR w0 φ p u) (hy : VR w0 φ q v) {k : AV → Option β} {r : β}
    (h : pBinA op qs p q k = some r) : Got w0 φ k r fun z => ∀ w, (do eqGuard op t x y u v; Go.binOp op t u v : Sem Value).run P w = .ok z w := by
  unfold pBinA at h
  split at h
  · rename_i cs ds
    obtain ⟨b, hb, h⟩ := Option.bind_eq_some_iff.1 h
    rw [VR] at hx hy
    obtain ⟨xs, rfl, hxl, hxs⟩ := hx
    obtain ⟨ys, rfl, hyl, hys⟩ := hy
    obtain ⟨hagg, hst, hgd, hnm⟩ := ht.eqf hq
    obtain ⟨d, g1, g2⟩ := ht.desc
    cases d <;> simp [descOk, hagg] at g2
    rename_i fs
    have hfo : P.fieldsOf t = fs := by simp [Program.fieldsOf, g1]
    have hfl : i.fields = fs.toList.map fun f => (f.offset, f.type) := by
      have := g2.1.1.2
      simpa using this
    rw [hfl] at hk
    rw [hfo] at hnm
    have he := eqFields_sound hT xs.toArray ys.toArray fs.toList qs 0 cs ds b hk hnm hb (by simpa using hxs) (by simpa using hys)
    have hun : P.underlying t = some (.struct (P.fieldsOf t)) := by rw [hfo, g1]
    have hg := fun w => run_eqGuard_agg (P := P) w op t x y xs.toArray ys.toArray hgd
    have hin := fun w => run_equalIn_agg (P := P) w 9999 t xs.toArray ys.toArray hun hst
    rw [hfo] at hin
    split at h
    · exact ⟨_, _, h, VR_sc _ _ _, fun w => by simp only [Sem.run_bind, hg, Result.andThen_ok, run_eql_struct, hin, he]⟩
    · exact ⟨_, _, h, VR_sc _ _ _, fun w => by simp only [Sem.run_bind, hg, Result.andThen_ok, run_neq_struct, hin, he]⟩
    · cases h
  · cases h

theorem un_sound {op : UnOp} {w0 : World} {φ : Phi} {w : World} {p : AV} {u : Value} (hx : VR w0 φ p u) {k : AV → Option β} {r : β}
    (h : pUn op p k = some r) : Got w0 φ k r fun z => ∀ w, (Op.unary op u).run P w = .ok z w := by
  unfold pUn at h
  split at h
  · rw [VR] at hx; subst hx; exact ⟨_, _, h, VR_sc _ _ _, fun _ => rfl⟩
  · rw [VR] at hx; subst hx; exact ⟨_, _, h, VR_sc _ _ _, fun _ => rfl⟩
  · cases h

theorem pick_sound {w0 : World} {φ : Phi} {c x y : AV} {uc u v : Value} (hc : VR w0 φ c uc) (hx : VR w0 φ x u) (hy : VR w0 φ y v) {k : AV → Option β} {r : β}
    (h : pPick c x y k = some r) : ∃ b, uc = .bool b ∧ Got w0 φ k r fun z => z = if b then u else v := by
  obtain ⟨b, hb, h⟩ := Option.bind_eq_some_iff.1 h
  refine ⟨b, asB_VR hc hb, ?_⟩
  split at h
  · rw [VR] at hx hy
    subst hx
    subst hy
    exact ⟨_, _, h, VR_sc _ _ _, rfl⟩
  · split at h
    · rename_i hb'; subst hb'; exact ⟨_, _, h, hx, rfl⟩
    · rename_i hb'; simp at hb'; subst hb'; exact ⟨_, _, h, hy, rfl⟩

theorem cvI_sound {s d : TypeId} {i j : TI} {kd : IntKind} (hs : TOk P s i) (hd : TOk P d j) (hj : j.ik = some kd) {w0 : World} {φ : Phi} {w : World} {x : AV} {u : Value} (hx : VR w0 φ x u) {k : AV → Option β} {r : β}
    (h : pCvI kd x k = some r) : Got w0 φ k r fun z => ∀ w, (convert s d u).run P w = .ok z w := by
  obtain ⟨n, hn, h⟩ := Option.bind_eq_some_iff.1 h
  obtain ⟨k0, rfl⟩ := asI_VR hx hn
  obtain ⟨ds, hds, _⟩ := hs.desc
  refine ⟨_, _, h, VR_sc _ _ _, fun w => ?_⟩
  simp [convert, run_underlying hds, run_underlying (desc_int hd hj), Conv.intToInt]

theorem cvSS_sound {s d : TypeId} {i j : TI} (hs : TOk P s i) (hd : TOk P d j) (hj : j.isStr = true) {w0 : World} {φ : Phi} {w : World} {x : AV} {u : Value} (hx : VR w0 φ x u) {k : AV → Option β} {r : β}
    (h : pCvSS x k = some r) : Got w0 φ k r fun z => ∀ w, (convert s d u).run P w = .ok z w := by
  obtain ⟨n, hn, h⟩ := Option.bind_eq_some_iff.1 h
  have := asS_VR hx hn
  subst this
  obtain ⟨ds, hds, _⟩ := hs.desc
  refine ⟨_, _, h, VR_sc _ _ _, fun w => ?_⟩
  simp [convert, run_underlying hds, run_underlying (desc_str hd hj)]

/-- What a slice holds, as the machine reads it. -/
theorem content_VR {w0 : World} {φ : Phi} {w : World} {H : Heap} (hr : HR w0 φ w H) {x : AV} {u : Value} (hx : VR w0 φ x u) {sz n : Nat} {cs : List AV} (hn : lenA x = some n) (hc : content H sz x = some cs) :
    ∃ (A : Option Addr) (c : Nat) (vs : List Value), u = .slice A n c ∧ n ≤ c ∧ cs.length = n * sz ∧ vs.length = n * sz ∧ VRs w0 φ cs (fun j => vs[j]?) ∧ (∀ a, A = some a → (loadCells a (n * sz)).run P w = .ok vs.toArray w) ∧ (A = none → n * sz = 0) ∧
      (∀ a, A = some a → ∀ j v, vs[j]? = some v → w.cell? (a.add j) = some v) := by
  have key : ∀ (b o : Nat), cs.length = n * sz → VRs w0 φ cs (fun j => w.cell? ⟨b, o + j, none⟩) →
      ∃ vs : List Value, vs.length = n * sz ∧ VRs w0 φ cs (fun j => vs[j]?) ∧ (loadCells ⟨b, o, none⟩ (n * sz)).run P w = .ok vs.toArray w ∧ ∀ j v, vs[j]? = some v → w.cell? ((⟨b, o, none⟩ : Addr).add j) = some v := by
    intro b o hl hcs
    rw [VRs_iff] at hcs
    refine ⟨(List.range (n * sz)).map fun j => (w.cell? ⟨b, o + j, none⟩).getD undef, by simp, ?_, ?_, ?_⟩
    · rw [VRs_iff]
      intro j y hj
      obtain ⟨u, h1, h2⟩ := hcs j y hj
      have : j < n * sz := by rw [← hl]; exact (List.getElem?_eq_some_iff.1 hj).1
      exact ⟨u, by simp [this, h1], h2⟩
    · exact run_loadCells (P := P) w ⟨b, o, none⟩ (n * sz) _ (fun j hj => by
        obtain ⟨u, h1, h2⟩ := hcs j _ (List.getElem?_eq_getElem (by omega))
        rw [addr_add, h1]
        rfl)
    · intro j v hj
      have hlt : j < n * sz := by simpa using (List.getElem?_eq_some_iff.1 hj).1
      obtain ⟨u, h1, h2⟩ := hcs j _ (List.getElem?_eq_getElem (by omega))
      rw [addr_add, h1]
      simp [hlt, h1] at hj
      rw [hj]
  have empty : ∀ A c, u = .slice A n c → n ≤ c → cs = [] → n * sz = 0 → ∃ (A : Option Addr) (c : Nat) (vs : List Value), u = .slice A n c ∧ n ≤ c ∧ cs.length = n * sz ∧ vs.length = n * sz ∧ VRs w0 φ cs (fun j => vs[j]?) ∧ (∀ a, A = some a → (loadCells a (n * sz)).run P w = .ok vs.toArray w) ∧ (A = none → n * sz = 0) ∧
      (∀ a, A = some a → ∀ j v, vs[j]? = some v → w.cell? (a.add j) = some v) := by
    intro A c hu hle hcs hz
    refine ⟨A, c, [], hu, hle, by simp [hcs, hz], by simp [hz], ?_, ?_, fun _ => hz, fun _ _ j v hj => by simp at hj⟩
    · rw [hcs, VRs]; trivial
    · intro a _
      rw [hz]
      rfl
  cases x with
  | nl =>
    simp only [lenA, Option.some.injEq] at hn
    simp only [content, Option.some.injEq] at hc
    subst hn
    rw [VR] at hx
    obtain ⟨A, hx⟩ := hx
    exact empty A 0 hx (Nat.le_refl _) hc.symm (by simp)
  | ro m cells =>
    simp only [lenA, Option.some.injEq] at hn
    subst hn
    simp only [content] at hc
    split at hc
    · rename_i hl
      simp only [Option.some.injEq] at hc
      subst hc
      rw [VR] at hx
      obtain ⟨A, c, rfl, hle, hh⟩ := hx
      rcases hh with rfl | ⟨b, o, rfl, hb, hcs⟩
      · exact empty A c rfl hle rfl (by simpa using hl.symm)
      · have h2 := VRs.mono (PLe.none φ) hcs
        simp only [← below_cell hr.bel hb] at h2
        obtain ⟨vs, g1, g2, g3, g4⟩ := key b o hl h2
        exact ⟨_, c, vs, rfl, hle, hl, g1, g2, (fun a ha => by cases ha; exact g3), (fun h => by cases h), (fun a ha => by cases ha; exact g4)⟩
    · cases hc
  | sl id off m z =>
    simp only [lenA, Option.some.injEq] at hn
    subst hn
    simp only [content] at hc
    split at hc
    · rename_i hz
      rw [VR] at hx
      have hlen : cs.length = m * sz := by
        unfold rdCells at hc
        split at hc
        · split at hc
          · split at hc
            · cases hc; simp; omega
            · cases hc
          · cases hc
        · cases hc
      rcases hx with ⟨_, _, rfl, A, rfl⟩ | ⟨b, o, s0, hp, ⟨rfl, A, rfl⟩ | ⟨c, hle, rfl, _⟩⟩
      · exact empty A 0 rfl (Nat.le_refl _) (List.eq_nil_of_length_eq_zero (by simpa using hlen)) (by simp)
      · exact empty A 0 rfl (Nat.le_refl _) (List.eq_nil_of_length_eq_zero (by simpa using hlen)) (by simp)
      · obtain ⟨h1, h2⟩ := rd_cells hr hc hp
        obtain ⟨vs, g1, g2, g3, g4⟩ := key b (o + off) h1 h2
        exact ⟨_, c, vs, rfl, hle, h1, g1, g2, (fun a ha => by cases ha; exact g3), (fun h => by cases h), (fun a ha => by cases ha; exact g4)⟩
    · cases hc
  | _ => cases hc

theorem bytes_of {w0 : World} {φ : Phi} : ∀ {cs : List AV} {bs : List UInt8} {vs : List Value}, cs.mapM byteOf = some bs → vs.length = cs.length → VRs w0 φ cs (fun j => vs[j]?) → ∃ ns : List Int, vs = ns.map (Value.int .u8) ∧ bs = ns.map fun n => UInt8.ofNat n.toNat
  | [], bs, vs, h, hl, _ => by
    simp at h
    subst h
    exact ⟨[], List.eq_nil_of_length_eq_zero (by simpa using hl), rfl⟩
  | x :: xs, bs, [], h, hl, _ => by simp at hl
  | x :: xs, bs, v :: vs, h, hl, hv => by
    simp only [List.mapM_cons, Option.pure_def, Option.bind_eq_bind, Option.bind_eq_some_iff, Option.some.injEq] at h
    obtain ⟨b, hb, bs', hbs, rfl⟩ := h
    rw [VRs] at hv
    obtain ⟨⟨u, h1, h2⟩, h3⟩ := hv
    simp only [List.getElem?_cons_zero, Option.some.injEq] at h1
    subst h1
    obtain ⟨ns, rfl, rfl⟩ := bytes_of hbs (by simpa using hl) (by simpa using h3)
    unfold byteOf at hb
    split at hb
    · rename_i n
      simp only [Option.some.injEq] at hb
      subst hb
      rw [VR] at h2
      subst h2
      exact ⟨n :: ns, rfl, rfl⟩
    · cases hb

theorem cvBS_sound {s d : TypeId} {i j e : TI} (hs : TOk P s i) (hd : TOk P d j) (hi : i.sl = true) (hj : j.isStr = true) (he : TOk P i.elem e) (hu : e.ik = some .u8) {w0 : World} {φ : Phi} {w : World} {H : Heap} (hr : HR w0 φ w H) {x : AV} {u : Value} (hx : VR w0 φ x u) {k : AV → Option β} {r : β}
    (h : pCvBS x H k = some r) : Got w0 φ k r fun z => ∀ w', Below w.heap.size w w' → (convert s d u).run P w' = .ok z w' := by
  simp only [pCvBS, Option.bind_eq_some_iff] at h
  obtain ⟨cs, hcs, bs, hbs, hk⟩ := h
  have hn : ∃ n, lenA x = some n := by cases x <;> simp only [content] at hcs <;> first | (cases hcs; done) | exact ⟨_, rfl⟩
  obtain ⟨n, hn⟩ := hn
  obtain ⟨A, c, vs, rfl, hle, g1, g2, g3, g4, g5, g6⟩ := content_VR (P := P) hr hx hn hcs
  obtain ⟨ns, rfl, rfl⟩ := bytes_of hbs (by omega) g3
  refine ⟨_, _, hk, VR_sc _ _ _, fun w' hw => ?_⟩
  rw [run_convert_bytes_string w' s d i.elem A n c (desc_slice hs hi) (desc_int he hu) (desc_str hd hj)]
  cases A with
  | none =>
    have : n * 1 = 0 := g5 rfl
    have e0 : ns = [] := List.eq_nil_of_length_eq_zero (by simpa using g2.trans this)
    subst e0
    simp [Conv.bytesToString]
    rfl
  | some a =>
    have hld := run_loadCells_list (P := P) w' a (ns.map (Value.int .u8)) (fun q z hq => by
      have hz := g6 a rfl q z hq
      have hb : a.block < w.heap.size := by
        rcases Nat.lt_or_ge a.block w.heap.size with h | h
        · exact h
        · have e : (a.add q).block = a.block := by unfold Addr.add; split <;> rfl
          simp [World.cell?, e, Array.getElem?_eq_none h] at hz
      have e : (a.add q).block = a.block := by unfold Addr.add; split <;> rfl
      rw [hw.cell (p := a.add q) (by rw [e]; exact hb)]
      exact hz)
    have hnl : (ns.map (Value.int .u8)).length = n := by simpa using g2
    rw [hnl] at hld
    rw [run_bytesToString w' a n c ns hld]
    congr 2
    have key : ∀ (ns : List Int) (s : ByteArray), ns.foldl (fun r n => r.push (UInt8.ofNat n.toNat)) s = ⟨s.data ++ (ns.map fun n => UInt8.ofNat n.toNat).toArray⟩ := by
      intro ns
      induction ns with
      | nil => intro s; simp
      | cons n ns ih => intro s; rw [List.foldl_cons, ih]; simp [ByteArray.push]
    rw [key]
    have he0 : ByteArray.empty.data = #[] := rfl
    rw [he0]
    simp

end Go.Proofs.Ytfpmccedangjoaa.Abs
