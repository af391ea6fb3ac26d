/- A law's arguments, as the claim tells of them, are trees of their types. -/
import Derived.Test.YtfpmccedangjoaaEnv
import Derived.Deep.Slices
import Derived.ChangeShapes
import Derived.WideShapes
import Derived.Carry
set_option linter.unusedVariables false
set_option linter.unusedSimpArgs false
namespace Go.Proofs.Ytfpmccedangjoaa.Abs
open Go Go.RowKit

variable {P : Program} {H : Type}

mutual
/-- The cells of what the claim tells of. -/
def dC : DataW H → List AV
  | .lit l => [.sc (match l with | .bool b => .bool b | .int k n => .int k n | .string bs => .string ⟨bs.toArray⟩ | _ => undef)]
  | .nil => [.ro 0 []]
  | .slice es _ => [.ro es.length (dCs es)]
  | .agg ps => dCs ps
  | _ => [.any]
def dCs : List (DataW H) → List AV
  | [] => []
  | d :: ds => dC d ++ dCs ds
end

/-- Cells of one type after another. -/
def okFs (f : Nat → List AV → Prop) : List (Nat × Nat) → List AV → Prop
  | [], cs => cs = []
  | (_, t) :: fs, cs => ∃ a b, cs = a ++ b ∧ f t a ∧ okFs f fs b

/-- Cells of a type. -/
def okT (ti : Nat → Option TI) : Nat → Nat → List AV → Prop
  | 0, _, _ => False
  | n + 1, ty, cs => ∃ i, ti ty = some i ∧
    match i.isB, i.ik, i.isStr, i.sl, i.isAgg with
    | true, _, _, _, _ => ∃ b, cs = [.sc (.bool b)]
    | _, some k, _, _, _ => ∃ n, cs = [.sc (.int k n)] ∧ (Lit.int k n).wf = true
    | _, _, true, _, _ => ∃ s : ByteArray, cs = [.sc (.string s)] ∧ s.size ≤ maxLen
    | _, _, _, true, _ => ∃ rows : List (List AV), cs = [.ro rows.length rows.flatten] ∧ rows.length ≤ maxLen ∧ ∀ r ∈ rows, okT ti n i.elem r
    | _, _, _, _, true => okFs (okT ti n) i.fields cs
    | _, _, _, _, _ => False

def contigB (ti : Nat → Option TI) : List (Nat × Nat) → Nat → Nat → Bool
  | [], o, total => o == total
  | (f, t) :: r, o, total => f == o && (match ti t with | some j => contigB ti r (o + j.size) total | none => false)

/-- Types that are told of, down to their parts. -/
def tyB (ti : Nat → Option TI) : Nat → Nat → Bool
  | 0, _ => false
  | n + 1, t => match ti t with
    | some i => i.isB || i.ik.isSome || i.isStr || (i.sl && tyB ti n i.elem) || (i.isAgg && contigB ti i.fields 0 i.size && i.fields.all fun q => tyB ti n q.2)
    | none => false

theorem TOk.cells {t : TypeId} {i : TI} (h : TOk P t i) : P.cellsOf t = i.size := by
  obtain ⟨inf, h1, h2, _⟩ := h.info
  simp [Program.cellsOf, h1, h2]

theorem contig_le (ti : Nat → Option TI) : ∀ (fs : List (Nat × Nat)) (o total : Nat), contigB ti fs o total = true → o ≤ total
  | [], o, total, h => by have : o = total := by simpa [contigB] using h
                          omega
  | (f, t) :: fs, o, total, h => by
    simp only [contigB, Bool.and_eq_true] at h
    obtain ⟨_, h⟩ := h
    split at h
    · have := contig_le ti fs _ total h
      omega
    · cases h

section
variable {enc : TypeId × Value → H} {w : World} {base : Nat} {spare : Nat → Bool} {held : Bool}

theorem cells_get {a : Addr} {n : Nat} {cs : List Value} (h : w.cells? base a n = some cs) : cs.length = n ∧ ∀ j, j < n → w.cell? (a.add j) = cs[j]? := by
  unfold World.cells? at h
  split at h
  · have key : ∀ (l : List Nat) (cs : List Value), (l.mapM fun i => w.cell? (a.add i)) = some cs → cs.length = l.length ∧ ∀ (j : Nat) i, l[j]? = some i → w.cell? (a.add i) = cs[j]? := by
      intro l
      induction l with
      | nil => intro cs h; simp at h; subst h; exact ⟨rfl, fun j i h => by simp at h⟩
      | cons x l ih =>
        intro cs h
        simp only [List.mapM_cons, Option.pure_def, Option.bind_eq_bind, Option.bind_eq_some_iff, Option.some.injEq] at h
        obtain ⟨v, hv, cs', hcs, rfl⟩ := h
        obtain ⟨g1, g2⟩ := ih cs' hcs
        refine ⟨by simp [g1], fun j i hj => ?_⟩
        cases j with
        | zero => simp at hj; subst hj; simpa using hv
        | succ j => simpa using g2 j i (by simpa using hj)
    obtain ⟨g1, g2⟩ := key _ _ h
    exact ⟨by simpa using g1, fun j hj => g2 j j (by simp [hj])⟩
  · cases h

theorem dCs_flat : ∀ (ds : List (DataW H)), dCs ds = (ds.map dC).flatten
  | [] => by simp [dCs]
  | d :: ds => by simp [dCs, dCs_flat ds]

theorem VRs_rows {w0 : World} {φ : Phi} {sz : Nat} : ∀ (rows : List (List AV)) (s : Nat) (g : Nat → Option Value), (∀ (i : Nat) r, rows[i]? = some r → r.length = sz ∧ VRs w0 φ r (fun j => g ((s + i) * sz + j))) → VRs w0 φ rows.flatten (fun j => g (s * sz + j))
  | [], s, g, _ => by simp [VRs]
  | r :: rows, s, g, h => by
    rw [List.flatten_cons]
    obtain ⟨h1, h2⟩ := h 0 r rfl
    refine VRs_append (by simpa using h2) ?_
    have ih := VRs_rows rows (s + 1) g (fun i r hr => by
      have := h (i + 1) r (by simpa using hr)
      rwa [show s + (i + 1) = s + 1 + i by omega] at this)
    rw [h1]
    have e : ∀ j, s * sz + (sz + j) = (s + 1) * sz + j := by intro j; rw [Nat.succ_mul]; omega
    simpa only [e] using ih

theorem fields_sound {ti : Nat → Option TI} (hT : TabOk P ti) {n f : Nat} {cs : List Value} (ih : ∀ (t fuel : Nat) (cs : List Value) (d : DataW H) (ps : List MemPlace), DataW.trod enc P w base spare held fuel t cs = some (d, ps) → tyB ti n t = true →
    (dC d).length = cs.length ∧ VRs w noPhi (dC d) (fun j => cs[j]?) ∧ okT ti n t (dC d)) :
    ∀ (fs : List Field) (xs : List (DataW H × List MemPlace)) (o : Nat), contigB ti (fs.map fun q => (q.offset, q.type)) o cs.length = true → (∀ q ∈ fs, tyB ti n q.type = true) → xs.length = fs.length →
      (∀ (i : Nat) q, fs[i]? = some q → DataW.trod enc P w base spare held f q.type ((cs.drop q.offset).take (P.cellsOf q.type)) = xs[i]?) →
      (dCs (xs.map (·.1))).length = cs.length - o ∧ VRs w noPhi (dCs (xs.map (·.1))) (fun j => cs[o + j]?) ∧ okFs (okT ti n) (fs.map fun q => (q.offset, q.type)) (dCs (xs.map (·.1)))
  | [], [], o, hc, _, _, _ => by
    have : o = cs.length := by simpa [contigB] using hc
    refine ⟨by simp [dCs, this], by simp [dCs, VRs], rfl⟩
  | [], x :: xs, o, _, _, hl, _ => by simp at hl
  | q :: fs, [], o, _, _, hl, _ => by simp at hl
  | q :: fs, x :: xs, o, hc, hty, hl, hx => by
    simp only [List.map_cons, contigB, Bool.and_eq_true, beq_iff_eq] at hc
    obtain ⟨ho, hc⟩ := hc
    split at hc
    · rename_i j hj
      have hcell := (hT _ _ hj).cells
      have h0 := hx 0 q rfl
      simp only [List.getElem?_cons_zero] at h0
      have hle := contig_le ti _ _ _ hc
      rw [hcell, ho] at h0
      obtain ⟨g1, g2, g3⟩ := ih q.type f _ x.1 x.2 h0 (hty q List.mem_cons_self)
      obtain ⟨k1, k2, k3⟩ := fields_sound hT ih fs xs (o + j.size) hc (fun q hq => hty q (List.mem_cons_of_mem _ hq)) (by simpa using hl) (fun i q hq => by simpa using hx (i + 1) q (by simpa using hq))
      have hlen : ((cs.drop o).take j.size).length = j.size := by simp; omega
      rw [hlen] at g1
      refine ⟨?_, ?_, ?_⟩
      · simp only [List.map_cons, dCs, List.length_append, g1, k1]
        omega
      · simp only [List.map_cons, dCs]
        refine VRs_append ?_ ?_
        · rw [VRs_iff] at g2 ⊢
          intro p y hp
          have hlt : p < j.size := by rw [← g1]; exact (List.getElem?_eq_some_iff.1 hp).1
          obtain ⟨u, e1, e2⟩ := g2 p y hp
          rw [List.getElem?_take_of_lt hlt, List.getElem?_drop] at e1
          exact ⟨u, e1, e2⟩
        · rw [g1]
          simpa only [Nat.add_assoc] using k2
      · simp only [List.map_cons, dCs, okFs]
        exact ⟨_, _, rfl, g3, k3⟩
    · cases hc

theorem trod_sound {ti : Nat → Option TI} (hT : TabOk P ti) : ∀ (n t fuel : Nat) (cs : List Value) (d : DataW H) (ps : List MemPlace), DataW.trod enc P w base spare held fuel t cs = some (d, ps) → tyB ti n t = true →
    (dC d).length = cs.length ∧ VRs w noPhi (dC d) (fun j => cs[j]?) ∧ okT ti n t (dC d)
  | 0, t, fuel, cs, d, ps, h, hb => by cases hb
  | n + 1, t, fuel, cs, d, ps, h, hb => by
    have ih := fun t fuel cs d ps => trod_sound hT n t fuel cs d ps
    simp only [tyB] at hb
    split at hb
    case h_2 => cases hb
    rename_i i hi
    have hto := hT t i hi
    obtain ⟨ds, hu, hd⟩ := hto.desc
    have one : ∀ (v : Value), VRs w noPhi [.sc v] (fun j => [v][j]?) := fun v => by
      rw [VRs, VRs]
      exact ⟨⟨v, rfl, VR_sc _ _ _⟩, trivial⟩
    cases ds <;> simp [descOk] at hd
    case bool =>
      obtain ⟨b, rfl, hx⟩ := DataW.trod_bool hu h
      cases hx
      refine ⟨rfl, one _, i, hi, ?_⟩
      simp only [hd]
      exact ⟨b, rfl⟩
    case int k =>
      obtain ⟨m, rfl, hx, hw⟩ := DataW.trod_int hu h
      cases hx
      refine ⟨rfl, one _, i, hi, ?_⟩
      simp only [hd]
      exact ⟨m, rfl, hw⟩
    case string =>
      obtain ⟨s, rfl, hx, hw⟩ := DataW.trod_string hu h
      cases hx
      refine ⟨rfl, one _, i, hi, ?_⟩
      simp only [hd]
      exact ⟨s, rfl, hw⟩
    case struct fs =>
      have hagg : i.isAgg = true := hd.1.1.1.1.1
      obtain ⟨xs, f, rfl, hx, hl, hxl, hf⟩ := DataW.trod_struct hu h
      cases hx
      simp only [hd, hagg, Bool.false_or, Bool.or_false, Bool.false_and, Bool.true_and, Option.isSome_none, Bool.and_eq_true, List.all_eq_true] at hb
      have hfl : i.fields = fs.toList.map fun f => (f.offset, f.type) := hd.1.1.2
      rw [hto.cells] at hl
      obtain ⟨k1, k2, k3⟩ := fields_sound (f := f) (cs := cs) hT ih fs.toList xs 0 (by rw [hl]; exact hb.1) (fun q hq => hb.2 (q.offset, q.type) (List.mem_map.2 ⟨q, hq, rfl⟩)) (by simpa using hxl) (fun j q hq => hf j q (by simpa using hq))
      simp only [dC]
      refine ⟨by simpa using k1, by simpa using k2, i, hi, ?_⟩
      simp only [hd, hagg]
      exact k3
    case slice e =>
      have hsl : i.sl = true := hd.1.1.1.2
      have he : i.elem = e := hd.1.1.2
      simp only [hd, hsl, Bool.false_or, Bool.or_false, Bool.false_and, Bool.true_and, Option.isSome_none] at hb
      rcases DataW.trod_slice hu h with ⟨rfl, hx⟩ | ⟨a, len, cap, elems, rest, m, rfl, rfl, hx, hbase, hle, hmax, hlen, hel, _, _⟩
      · cases hx
        refine ⟨rfl, ?_, i, hi, ?_⟩
        · simp only [dC]
          rw [VRs, VRs]
          refine ⟨⟨_, rfl, ?_⟩, trivial⟩
          rw [VR]
          exact ⟨none, 0, rfl, Nat.le_refl _, .inl rfl⟩
        · simp only [hd, hsl]
          exact ⟨[], rfl, Nat.zero_le _, fun r hr => by cases hr⟩
      · cases hx
        have hbe : tyB ti n e = true := by rw [← he]; simpa [he] using hb
        have hje : ∃ j, ti e = some j := by
          cases n with
          | zero => cases hbe
          | succ n =>
            simp only [tyB] at hbe
            split at hbe
            · rename_i j hj; exact ⟨j, hj⟩
            · cases hbe
        obtain ⟨j, hj⟩ := hje
        have hcell := (hT _ _ hj).cells
        have rows : ∀ (q : Nat) r, ((elems.map fun x => dC x.1))[q]? = some r → r.length = j.size ∧ VRs w noPhi r (fun p => w.cell? (a.add (q * j.size + p))) ∧ okT ti n e r ∧ ∃ v, w.cell? (a.add (q * j.size)) = some v := by
          intro q r hr
          rw [List.getElem?_map] at hr
          obtain ⟨x, hx, rfl⟩ := Option.map_eq_some_iff.1 hr
          have hlt : q < len := by rw [← hlen]; exact (List.getElem?_eq_some_iff.1 hx).1
          have h1 := hel q hlt
          rw [hx, hcell] at h1
          obtain ⟨cs', hcs, htr⟩ := Option.bind_eq_some_iff.1 h1
          obtain ⟨c1, c2⟩ := cells_get hcs
          obtain ⟨g1, g2, g3⟩ := ih e m cs' x.1 x.2 htr hbe
          have hadd : ∀ p, (a.add (q * j.size)).add p = a.add (q * j.size + p) := by
            intro p
            unfold Addr.add
            by_cases hp : p = 0
            · subst hp; simp
            · by_cases hq : q * j.size = 0
              · simp [hq]
              · have : q * j.size + p ≠ 0 := by omega
                simp [hp, hq, this, Nat.add_assoc]
          refine ⟨by rw [g1, c1], ?_, g3, ?_⟩
          · rw [VRs_iff] at g2 ⊢
            intro p y hp
            have hlt2 : p < j.size := by rw [← c1, ← g1]; exact (List.getElem?_eq_some_iff.1 hp).1
            obtain ⟨u, e1, e2⟩ := g2 p y hp
            exact ⟨u, by rw [← hadd, c2 p hlt2]; exact e1, e2⟩
          · have := c2 0 (hT _ _ hj).spos
            rw [List.getElem?_eq_getElem (by rw [c1]; exact (hT _ _ hj).spos)] at this
            exact ⟨_, by simpa [Addr.add] using this⟩
        refine ⟨rfl, ?_, i, hi, ?_⟩
        · simp only [dC]
          rw [VRs, VRs]
          refine ⟨⟨_, rfl, ?_⟩, trivial⟩
          rw [VR]
          refine ⟨some a, cap, by simp [hlen], by simpa [hlen] using hle, ?_⟩
          rw [dCs_flat]
          cases hels : elems with
          | nil => left; rfl
          | cons x0 els =>
            right
            obtain ⟨r1, r2, r3, v, hv⟩ := rows 0 (dC x0.1) (by rw [hels]; rfl)
            obtain ⟨b, o, spot⟩ := a
            have hspot : spot = none := by simpa [Addr.add] using World.cell?_spot hv
            subst hspot
            refine ⟨b, o, rfl, ?_, ?_⟩
            · rcases Nat.lt_or_ge b w.heap.size with h | h
              · exact h
              · simp [World.cell?, Addr.add, Array.getElem?_eq_none h] at hv
            · have key := VRs_rows (w0 := w) (φ := noPhi) (sz := j.size) (elems.map fun x => dC x.1) 0 (fun p => w.cell? ⟨b, o + p, none⟩) (fun q r hr => by
                obtain ⟨s1, s2, _, _⟩ := rows q r hr
                refine ⟨s1, ?_⟩
                simpa only [addr_add, Nat.zero_add] using s2)
              rw [hels] at key
              simpa [List.map_map, Function.comp_def] using key
        · simp only [hd, hsl]
          refine ⟨elems.map fun x => dC x.1, ?_, by simp [hlen]; omega, fun r hr => ?_⟩
          · simp [dC, dCs_flat, List.map_map, Function.comp_def]
          · obtain ⟨q, hq⟩ := List.mem_iff_getElem?.1 hr
            exact (rows q r hq).2.2.1
    case pointer => simp [hd] at hb
    case func => simp [hd] at hb
/-- An argument of a type. -/
def argOf (ti : Nat → Option TI) (t : Nat) (cs : List AV) : AV :=
  match ti t with
  | some i => if i.isAgg then .agg cs else cs.headD .any
  | none => .any
def okA (ti : Nat → Option TI) (n t : Nat) (x : AV) : Prop := ∃ cs, okT ti n t cs ∧ x = argOf ti t cs
def okAs (ti : Nat → Option TI) (n : Nat) : List Nat → List AV → Prop
  | [], xs => xs = []
  | t :: ts, xs => ∃ x ys, xs = x :: ys ∧ okA ti n t x ∧ okAs ti n ts ys

theorem arg_sound {ti : Nat → Option TI} (hT : TabOk P ti) {n t : Nat} {v : Value} {d : DataW H} {ps : List MemPlace} {r : Reach} {b0 : Nat} (hv : Value.okWide P w r b0 t v) (h : DataW.Trod enc P w base spare held t v d ps) (hb : tyB ti n t = true) :
    VR w noPhi (argOf ti t (dC d)) v ∧ okA ti n t (argOf ti t (dC d)) := by
  obtain ⟨fuel, hf⟩ := h
  obtain ⟨h1, h2, h3⟩ := trod_sound hT n t fuel _ d ps hf hb
  refine ⟨?_, _, h3, rfl⟩
  cases n with
  | zero => cases hb
  | succ n =>
    obtain ⟨i, hi, hok⟩ := h3
    obtain ⟨ds, hu, hd⟩ := (hT t i hi).desc
    have leafy : (∀ cs, v ≠ .agg cs) → v.cells = #[v] := by
      intro hn
      cases v <;> first | rfl | exact absurd rfl (hn _)
    have fin : i.isAgg = false → (∀ cs, v ≠ .agg cs) → VR w noPhi (argOf ti t (dC d)) v := by
      intro ha hn
      rw [leafy hn] at h1 h2
      simp only [argOf, hi, ha, Bool.false_eq_true, if_false]
      match hdc : dC d, h1 with
      | [x], _ =>
        rw [hdc, VRs] at h2
        obtain ⟨⟨u, e1, e2⟩, _⟩ := h2
        simp at e1
        subst e1
        exact e2
    unfold Value.okWide at hv
    rw [hu] at hv
    cases ds <;> simp [descOk] at hd
    case struct fs =>
      obtain ⟨cs, rfl, _, _⟩ := hv
      simp only [argOf, hi, hd, if_true]
      rw [VR]
      exact ⟨cs.toList, by simp, by simpa [Value.cells] using h1.symm, by simpa [Value.cells] using h2⟩
    all_goals
      refine fin (by simp [hd]) fun cs hcs => ?_
      subst hcs
      simp [Cell.okWide, Cell.ok, hu] at hv

theorem args_sound {ti : Nat → Option TI} (hT : TabOk P ti) {n : Nat} {r : Reach} {b0 : Nat} : ∀ (ts : List TypeId) (vs : List Value) (ds : List (DataW H)) (ps : List MemPlace), DataW.TrodAll enc P w base spare held ts vs ds ps →
    (∀ (j : Nat) t v, ts[j]? = some t → vs[j]? = some v → Value.okWide P w r b0 t v) → ts.all (tyB ti n) = true → ∃ xs, okAs ti n ts xs ∧ vs.length = xs.length ∧ VRs w noPhi xs (fun j => vs[j]?)
  | [], [], [], _, _, _, _ => ⟨[], rfl, rfl, by rw [VRs]; trivial⟩
  | [], _ :: _, _, _, h, _, _ => by cases h
  | [], [], _ :: _, _, h, _, _ => by cases h
  | _ :: _, [], _, _, h, _, _ => by cases h
  | _ :: _, _ :: _, [], _, h, _, _ => by cases h
  | t :: ts, v :: vs, d :: ds, ps, h, hv, hb => by
    obtain ⟨p, q, h1, h2, _⟩ := h
    simp only [List.all_cons, Bool.and_eq_true] at hb
    obtain ⟨xs, g1, g2, g3⟩ := args_sound hT ts vs ds q h2 (fun j t v ht hv' => hv (j + 1) t v (by simpa using ht) (by simpa using hv')) hb.2
    obtain ⟨a1, a2⟩ := arg_sound hT (hv 0 t v rfl rfl) h1 hb.1
    refine ⟨_ :: xs, ⟨_, _, rfl, a2, g1⟩, by simp [g2], ?_⟩
    rw [VRs]
    exact ⟨⟨v, rfl, a1⟩, by simpa using g3⟩

theorem trodAll_lt {P : Program} {W : World} : ∀ {ts : List TypeId} {vs : List Value} {ds : List (DataW H)} {ps : List MemPlace}, DataW.TrodAll enc P W 0 (fun _ => true) true ts vs ds ps → ∀ x ∈ ps, x.block < W.heap.size
  | [], [], [], ps, h => by
    have : ps = [] := h
    subst this
    intro x hx
    cases hx
  | [], _ :: _, _, _, h => by cases h
  | [], [], _ :: _, _, h => by cases h
  | _ :: _, [], _, _, h => by cases h
  | _ :: _, _ :: _, [], _, h => by cases h
  | t :: ts, v :: vs, d :: ds, ps, h => by
    obtain ⟨p, q, h1, h2, rfl⟩ := h
    intro x hx
    rcases List.mem_append.1 hx with hx | hx
    · obtain ⟨m, hm⟩ := h1
      exact DataW.trod_lt m _ _ _ hm x hx
    · exact trodAll_lt h2 x hx

/-- The arguments read as they did. -/
theorem trodAll_stays {P : Program} (hl : laidOutB P = true) {W W' : World} (hb : Below W.heap.size W W') : ∀ {ts : List TypeId} {vs : List Value} {ds : List (DataW H)} {ps : List MemPlace}, (ts.all fun t => P.readableRec t && decide (t < P.types.size)) = true →
    DataW.TrodAll enc P W 0 (fun _ => true) true ts vs ds ps → DataW.TrodAll enc P W' 0 (fun b => decide (b < W.heap.size)) true ts vs ds ps
  | [], [], [], ps, _, h => h
  | [], _ :: _, _, _, _, h => by cases h
  | [], [], _ :: _, _, _, h => by cases h
  | _ :: _, [], _, _, _, h => by cases h
  | _ :: _, _ :: _, [], _, _, h => by cases h
  | t :: ts, v :: vs, d :: ds, ps, hr, h => by
    simp only [List.all_cons, Bool.and_eq_true, decide_eq_true_eq] at hr
    have hlt := trodAll_lt h
    obtain ⟨p, q, h1, h2, rfl⟩ := h
    exact ⟨p, q, Below.trod hl hr.1.1 hr.1.2 h1 hb (fun x hx => hlt x (List.mem_append_left _ hx)), trodAll_stays hl hb hr.2 h2, rfl⟩

end

end Go.Proofs.Ytfpmccedangjoaa.Abs
