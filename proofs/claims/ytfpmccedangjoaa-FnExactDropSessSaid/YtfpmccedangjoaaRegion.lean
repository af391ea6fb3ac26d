/- A region: its operations in the order of the text, or, where the order is drawn, in whatever order. -/
import Derived.Test.YtfpmccedangjoaaLoud
import Derived.OrdersHeld
set_option linter.unusedVariables false
set_option linter.unusedSimpArgs false
namespace Go.Proofs.Ytfpmccedangjoaa.Abs
open Go Go.RowKit

variable {P : Program} {β : Type}

/-! ## Whatever order is drawn -/

def reachB (ops : Array Oper) (i : Nat) : Nat → Nat → Bool
  | 0, _ => false
  | fuel + 1, d => match ops[d]? with
    | some o => o.after.any fun e => Region.binds .any e && (e.on == i || reachB ops i fuel e.on)
    | none => false
def lastB (ops : Array Oper) (listed : Array Bool) (ds : List Nat) (i : Nat) : Bool := ds.all fun d => listed.getD d true || reachB ops i ops.size d
def Closed (ops : Array Oper) (listed : Array Bool) : Prop := ∀ j oj, ops[j]? = some oj → listed.getD j false = true → ∀ e ∈ oj.after, Region.binds .any e = true → listed.getD e.on false = true

section
variable {ops : Array Oper} {Q : Exit → Act → World → Prop} {ds : List Nat}

theorem Closed.set {listed : Array Bool} {i : Nat} (h : Closed ops listed) (hi : i ∈ Region.ready .any ops listed) : Closed ops (listed.setIfInBounds i true) := by
  obtain ⟨_, oi, hoi, hall⟩ := mem_ready.1 hi
  intro j oj hj hl e he hb
  by_cases hij : i = j
  · subst hij
    have : oj = oi := Option.some.inj (hj.symm.trans hoi)
    subst this
    exact getD_set_true (hall e he hb)
  · rw [getD_set_ne false hij] at hl
    exact getD_set_true (h j oj hj hl e he hb)

theorem reach_listed {listed : Array Bool} {i : Nat} (hc : Closed ops listed) : ∀ (fuel d : Nat), reachB ops i fuel d = true → listed.getD d false = true → listed.getD i false = true
  | 0, _, h, _ => by simp [reachB] at h
  | fuel + 1, d, h, hl => by
    unfold reachB at h
    cases ho : ops[d]? with
    | none => rw [ho] at h; simp at h
    | some o =>
      rw [ho] at h
      obtain ⟨e, he, h1⟩ := Array.any_eq_true'.1 h
      simp only [Bool.and_eq_true, Bool.or_eq_true, beq_iff_eq] at h1
      have hle := hc d o ho hl e he h1.1
      rcases h1.2 with h2 | h2
      · rw [← h2]; exact hle
      · exact reach_listed hc fuel e.on h2 hle

theorem reach_not_ready {listed : Array Bool} {i d fuel : Nat} (hc : Closed ops listed) (hr : reachB ops i fuel d = true) (hun : listed.getD i true = false) : d ∉ Region.ready .any ops listed := by
  intro hd
  obtain ⟨_, o, ho, hall⟩ := mem_ready.1 hd
  have hi : listed.getD i false = true := by
    cases fuel with
    | zero => simp [reachB] at hr
    | succ n =>
      unfold reachB at hr
      rw [ho] at hr
      obtain ⟨e, he, h1⟩ := Array.any_eq_true'.1 hr
      simp only [Bool.and_eq_true, Bool.or_eq_true, beq_iff_eq] at h1
      have hle := hall e he h1.1
      rcases h1.2 with h2 | h2
      · rw [← h2]; exact hle
      · exact reach_listed hc n e.on h2 hle
  rcases Nat.lt_or_ge i listed.size with h' | h'
  · simp [h'] at hun hi
    rw [hun] at hi
    cases hi
  · simp [Array.getElem?_eq_none h'] at hun

/-- Whatever order is picked from here on; an operation that is none of ds leaves all that was there as it was. -/
def wpAnyO (P : Program) (ops : Array Oper) (Q : Exit → Act → World → Prop) (ds : List Nat) : Nat → Array Bool → Act → World → Prop
  | 0, listed, a, w => Region.ready .any ops listed = [] ∧ Q .normal a w
  | fuel + 1, listed, a, w =>
    (Region.ready .any ops listed = [] → Q .normal a w) ∧
    ∀ i ∈ Region.ready .any ops listed, wpOp P ops Q i (fun a' w' => (i ∉ ds → Below w.heap.size w w') ∧ wpAnyO P ops Q ds fuel (listed.setIfInBounds i true) a' w') a w

theorem wpAny_of_O : ∀ (fuel : Nat) (listed : Array Bool) (a : Act) (w : World), wpAnyO P ops Q ds fuel listed a w → wpAny P .any ops Q fuel listed a w
  | 0, _, _, _, h => h
  | fuel + 1, _, _, _, h => ⟨h.1, fun i hi => wpOp_mono (fun a' w' h' => wpAny_of_O fuel _ a' w' h'.2) (h.2 i hi)⟩

theorem wpAnyO_first {i : Nat} {oi : Oper} {v : Value} {S : World → Prop} (hS : ∀ w w', S w → Below w.heap.size w w' → S w') (hi : ops[i]? = some oi) (hsel : ∀ (j : Nat) (o : Oper) cs b, ops[j]? = some o → o.op ≠ .select cs b)
    (hQ : ∀ c a w, Q (.panic c) (a.put oi.dst v) w → Q (.panic c) a w) (n : Nat) :
    ∀ (fuel : Nat) (listed : Array Bool) (a : Act) (w : World),
      (∀ j oj, ops[j]? = some oj → j ≠ i → listed.getD j true = false → (∀ e ∈ oj.after, Region.binds .any e = true → e.on ≠ i) → oi.apart ops oj = true) →
      Closed ops listed → (∀ d ∈ ds, listed.getD d true = false → (∀ w, S w) ∨ reachB ops i n d = true) →
      i ∈ Region.ready .any ops listed → YieldsIf P ops S oi v a → S w →
      wpAnyO P ops Q ds fuel (listed.setIfInBounds i true) (a.put oi.dst v) w → wpAnyO P ops Q ds (fuel + 1) listed a w := by
  intro fuel
  induction fuel with
  | zero =>
    intro listed a w _ _ _ hr hy hs H
    refine ⟨fun h => (by rw [h] at hr; cases hr), fun j hj => ?_⟩
    by_cases hji : j = i
    · subst hji; exact hy.wpOp hi hs ⟨fun _ => Below.refl _ _, H⟩
    · have := ready_mono hj hji
      rw [H.1] at this
      cases this
  | succ fuel ih =>
    intro listed a w hfree hc hd hr hy hs H
    refine ⟨fun h => (by rw [h] at hr; cases hr), fun j hj => ?_⟩
    by_cases hji : j = i
    · subst hji; exact hy.wpOp hi hs ⟨fun _ => Below.refl _ _, H⟩
    · have h1 := H.2 j (ready_mono hj hji)
      obtain ⟨hjun, oj, hoj, hall⟩ := mem_ready.1 hj
      have hiun := (mem_ready.1 hr).1
      have hnot : ∀ e ∈ oj.after, Region.binds .any e = true → e.on ≠ i := fun e he hb heq => by
        have h1 := hall e he hb
        rw [heq] at h1
        rcases Nat.lt_or_ge i listed.size with h' | h'
        · simp [h'] at hiun h1; rw [hiun] at h1; cases h1
        · simp [Array.getElem?_eq_none h'] at h1
      have hkeep : ∀ w', (j ∉ ds → Below w.heap.size w w') → S w' := fun w' hw => by
        by_cases hjd : j ∈ ds
        · rcases hd j hjd hjun with h | h
          · exact h w'
          · exact absurd hj (reach_not_ready hc h hiun)
        · exact hS w w' hs (hw hjd)
      have h2 := wpOp_putIf hoj (hfree j oj hoj hji hjun hnot) (fun cs b => hsel i oi cs b hi) (fun cs b => hsel j oj cs b hoj) hQ hy h1
      have hfree' : ∀ k ok, ops[k]? = some ok → k ≠ i → (listed.setIfInBounds j true).getD k true = false →
          (∀ e ∈ ok.after, Region.binds .any e = true → e.on ≠ i) → oi.apart ops ok = true := fun k ok hk hki hun hno => by
        refine hfree k ok hk hki ?_ hno
        by_cases hjk : j = k
        · subst hjk; exact hjun
        · rw [getD_set_ne true hjk] at hun; exact hun
      have hd' : ∀ d ∈ ds, (listed.setIfInBounds j true).getD d true = false → (∀ w, S w) ∨ reachB ops i n d = true := fun d hm hun => by
        refine hd d hm ?_
        by_cases hjk : j = d
        · subst hjk; exact hjun
        · rw [getD_set_ne true hjk] at hun; exact hun
      refine wpOp_mono (fun a' w' h3 => ⟨h3.2.1, ih (listed.setIfInBounds j true) a' w' hfree' (hc.set hj) hd' (ready_mono hr (Ne.symm hji)) h3.1 (hkeep w' h3.2.1) ?_⟩) h2
      rw [Array.setIfInBounds_comm _ _ hji]
      exact h3.2.2
end

/-! ## The evaluator's regions -/

/-- The operations that may change what was there. -/
def dsOf (E : Env) (ops : Array Oper) : List Nat := (List.range ops.size).filter fun j => match ops[j]? with
  | some o => !(calmOp E o.op || quietB E.ti o.op || (appA ops.toList o).isSome)
  | none => false

/-- What is asked of an operation's text. -/
def operB (E : Env) (nt : Nat) (o : Oper) : Bool := idxB E.ti o.op && (match o.dst with | some d => d < nt | none => true)

def planGo (E : Env) (ops : Array Oper) (ds : List Nat) : PI → Array Bool → Bool
  | .nil, listed => (Region.ready .any ops listed).isEmpty
  | .one i l, listed =>
    (match ops[i]? with
    | none => false
    | some o =>
      ((pureB E.ti o.op && quietB E.ti o.op || quietB E.ti o.op && lastB ops listed ds i) && Region.free .any ops listed i && (Region.ready .any ops listed).contains i) || Region.ready .any ops listed == [i]) &&
    planGo E ops ds l (listed.setIfInBounds i true)
  | .two i l j m, listed => (Region.ready .any ops listed == [i, j] || Region.ready .any ops listed == [j, i]) && l.len == m.len && planGo E ops ds l (listed.setIfInBounds i true) && planGo E ops ds m (listed.setIfInBounds j true)

def regionB (E : Env) (nt : Nat) (ops : Array Oper) : Bool := ops.all (operB E nt)
def planB (E : Env) (ops : Array Oper) (l : PI) : Bool := l.len == ops.size && Region.noSelect ops && planGo E ops (dsOf E ops) l (Array.replicate ops.size false)

/-- How the evaluator's state and the machine's go together. -/
structure St (w0 : World) (φ : Phi) (tm : Tm) (H : Heap) (nt : Nat) (a : Act) (w : World) : Prop where
  hr : HR w0 φ w H
  tr : TR w0 φ tm a
  size : a.tmps.size = nt
  defers : a.defers = []

theorem Act.put_size (a : Act) (d : Option Tmp) (v : Value) : (a.put d v).tmps.size = a.tmps.size := by
  cases d <;> simp [Act.put]
theorem Act.put_defers' (a : Act) (d : Option Tmp) (v : Value) : (a.put d v).defers = a.defers := by
  cases d <;> rfl

theorem TR.put {w0 : World} {φ φ' : Phi} {tm : Tm} {a : Act} (h : TR w0 φ tm a) (hp : PLe φ φ') {d : Option Tmp} {v : AV} {u : Value} (hv : VR w0 φ' v u) (hd : ∀ t, d = some t → t < a.tmps.size) : TR w0 φ' (putT tm d v) (a.put d u) := by
  cases d with
  | none => exact fun i => VR.mono hp (h i)
  | some t =>
    have ht := hd t rfl
    intro i
    simp only [putT, gt, Act.put]
    by_cases hi : t = i
    · subst hi
      have e : Nat.beq t t = true := Nat.beq_refl t
      simp [e, ht]
      exact hv
    · have e : Nat.beq t i = false := by
        cases hb : Nat.beq t i
        · rfl
        · exact absurd (Nat.eq_of_beq_eq_true hb) hi
      simp only [e, Bool.false_eq_true, if_false]
      have := VR.mono hp (h i)
      simpa [Array.getElem?_setIfInBounds_ne hi] using this

theorem St.put {w0 : World} {φ φ' : Phi} {tm : Tm} {H H' : Heap} {nt : Nat} {a : Act} {w w' : World} (h : St w0 φ tm H nt a w) (hp : PLe φ φ') (hr : HR w0 φ' w' H') {d : Option Tmp} {v : AV} {u : Value} (hv : VR w0 φ' v u) (hd : ∀ t, d = some t → t < nt) :
    St w0 φ' (putT tm d v) H' nt (a.put d u) w' :=
  ⟨hr, h.tr.put hp hv (by rw [h.size]; exact hd), by rw [Act.put_size, h.size], by rw [Act.put_defers', h.defers]⟩

/-- The guard's say. -/
theorem guard_sound {w0 : World} {φ : Phi} {tm : Tm} {a : Act} (htm : TR w0 φ tm a) {ops : Array Oper} {o : Oper} {H : Heap} {m : (AV → Heap → Option β) → Option β} {K : AV → Heap → Option β} {r : β} {n : Nat}
    (h : (match o.guard with
      | none => m K
      | some (j, t) =>
        match (ops.toList[j]?).bind (·.dst) with
        | some d => pGuard (gt tm d) t H (fun k' => m k') K
        | none => none) = some r) :
    (Region.wanted o (yielded ops a.tmps) = true ∧ m K = some r) ∨ (Region.wanted o (yielded ops a.tmps) = false ∧ K (.sc undef) H = some r) := by
  unfold Region.wanted
  cases hg : o.guard with
  | none =>
    rw [hg] at h
    exact .inl ⟨rfl, h⟩
  | some jt =>
    obtain ⟨j, t⟩ := jt
    rw [hg] at h
    simp only at h
    split at h
    · rename_i d hd
      have hd' : (ops[j]?).bind (·.dst) = some d := by simpa using hd
      have hv := htm d
      have hy : yielded ops a.tmps j = match a.tmps.getD d undef with | .bool b => some b | _ => none := by
        unfold yielded
        rw [hd']
        simp only [Option.bind_some, Array.getD_eq_getD_getElem?]
        cases a.tmps[d]? with
        | none => rfl
        | some v => cases v <;> rfl
      have skip : (∀ b, a.tmps.getD d undef ≠ .bool b) → (yielded ops a.tmps j == some t) = false := by
        intro hb
        rw [hy]
        split
        · rename_i b hb'
          exact absurd hb' (hb b)
        · rfl
      unfold pGuard at h
      split at h
      · rename_i b hb
        rw [hb, VR] at hv
        rw [hv] at hy
        simp only at hy
        split at h
        · rename_i hbt
          exact .inl ⟨by simp [hy, hbt], h⟩
        · rename_i hbt
          exact .inr ⟨by simp [hy, hbt], h⟩
      · cases h
      · rename_i hn1 hn2
        refine .inr ⟨skip ?_, h⟩
        intro b hb
        rw [hb] at hv
        generalize gt tm d = z at *
        cases z with
        | any => exact hn2 rfl
        | sc v => rw [VR] at hv; subst hv; exact hn1 b rfl
        | nl => rw [VR] at hv; obtain ⟨A, hv⟩ := hv; cases hv
        | ro n c => rw [VR] at hv; obtain ⟨A, c, hv, _⟩ := hv; cases hv
        | sl id off n z => rw [VR] at hv; rcases hv with ⟨_, _, _, A, hv⟩ | ⟨_, _, _, _, ⟨_, A, hv⟩ | ⟨c, _, hv, _⟩⟩ <;> cases hv
        | ptr id off => rw [VR] at hv; obtain ⟨_, _, _, _, hv⟩ := hv; cases hv
        | rp c => rw [VR] at hv; obtain ⟨_, _, hv, _⟩ := hv; cases hv
        | agg c => rw [VR] at hv; obtain ⟨_, hv, _⟩ := hv; cases hv
        | tup c => rw [VR] at hv; obtain ⟨_, hv, _⟩ := hv; cases hv
        | fn f x c => rw [VR] at hv; obtain ⟨_, _, hv, _⟩ := hv; cases hv
    · cases h

theorem evalOps_cons {E : Env} {cal : Cal} {c : Oper → Tm → Bool} {ops : Array Oper} {o : Oper} {os : List Oper} {tm : Tm} {H : Heap} {K : Tm → Heap → Option β} {r : β}
    (h : evalOps E.ti (prims E cal β) c ops.toList (o :: os) tm H K = some r) : c o tm = true ∧ (match o.guard with
      | none => evalOp E.ti (prims E cal β) o.op o.type tm H (fun v H => evalOps E.ti (prims E cal β) c ops.toList os (putT tm o.dst v) H K)
      | some (j, t) =>
        match (ops.toList[j]?).bind (·.dst) with
        | some d => pGuard (gt tm d) t H (fun k' => evalOp E.ti (prims E cal β) o.op o.type tm H k') (fun v H => evalOps E.ti (prims E cal β) c ops.toList os (putT tm o.dst v) H K)
        | none => none) = some r := by
  simp only [evalOps] at h
  split at h
  · rename_i hc
    exact ⟨hc, h⟩
  · cases h

/-- What a region's end asks. -/
def After (w0 : World) (φ : Phi) (nt : Nat) (K : Tm → Heap → Option β) (r : β) (a : Act) (w : World) : Prop := ∃ φ' tm H, PLe φ φ' ∧ St w0 φ' tm H nt a w ∧ K tm H = some r

theorem ops_sound {E : Env} (hT : TabOk P E.ti) (hsz : ∀ t i, E.ti t = some i → i.ik = some .u8 → i.size = 1) {cal : Cal} {w0 : World} (hc : CallOk P E cal w0) {nt : Nat} {ops : Array Oper} {Q : Exit → Act → World → Prop} {K : Tm → Heap → Option β} {r : β} :
    ∀ (os : List Oper) (φ : Phi) (tm : Tm) (H : Heap) (a : Act) (w : World), (∀ o ∈ os, operB E nt o = true) → St w0 φ tm H nt a w → evalOps E.ti (prims E cal β) (fun _ _ => true) ops.toList os tm H K = some r →
      (∀ a w, After w0 φ nt K r a w → Q .normal a w) → wpList P ops Q os a w
  | [], φ, tm, H, a, w, _, hs, h, hQ => hQ a w ⟨φ, tm, H, PLe.refl _, hs, h⟩
  | o :: os, φ, tm, H, a, w, hB, hs, h, hQ => by
    obtain ⟨_, h⟩ := evalOps_cons h
    have ho := hB o List.mem_cons_self
    simp only [operB, Bool.and_eq_true] at ho
    have hd : ∀ t, o.dst = some t → t < nt := by
      intro t ht
      have := ho.2
      rw [ht] at this
      simpa using this
    unfold wpList
    rcases guard_sound (n := nt) hs.tr h with ⟨hw, h⟩ | ⟨hw, h⟩
    · rw [if_pos hw]
      left
      refine op_sound hT hc ho.1 hsz hs.hr hs.tr h _ Q fun u w' ⟨⟨v, φ', H', h1, h2, h3, h4⟩, _⟩ => ?_
      exact ops_sound hT hsz hc os φ' _ H' _ w' (fun o ho => hB o (List.mem_cons_of_mem _ ho)) (hs.put h2 h3 h4 hd) h1 fun a w ⟨φ2, tm2, H2, q1, q2, q3⟩ => hQ a w ⟨φ2, tm2, H2, PLe.trans h2 q1, q2, q3⟩
    · rw [hw]
      exact ops_sound hT hsz hc os φ _ H _ w (fun o ho => hB o (List.mem_cons_of_mem _ ho)) (hs.put (PLe.refl _) hs.hr (VR_sc _ _ _) hd) h hQ

theorem stepO_some {E : Env} {cal : Cal} {c : Oper → Tm → Bool} {ops : Array Oper} {o : Oper} {tm : Tm} {H : Heap} {K : Tm → Heap → Option β} {r : β}
    (h : stepO E.ti (prims E cal β) c ops.toList o tm H K = some r) : c o tm = true ∧ (match o.guard with
      | none => evalOp E.ti (prims E cal β) o.op o.type tm H (fun v H => K (putT tm o.dst v) H)
      | some (j, t) =>
        match (ops.toList[j]?).bind (·.dst) with
        | some d => pGuard (gt tm d) t H (fun k' => evalOp E.ti (prims E cal β) o.op o.type tm H k') (fun v H => K (putT tm o.dst v) H)
        | none => none) = some r := by
  simp only [stepO] at h
  split at h
  · rename_i hc
    exact ⟨hc, h⟩
  · cases h

/-- An operation that is taken as it comes. -/
theorem hone_step {E : Env} (hT : TabOk P E.ti) (hsz : ∀ t i, E.ti t = some i → i.ik = some .u8 → i.size = 1) {cal : Cal} {w0 : World} (hc : CallOk P E cal w0) {nt : Nat} {ops : Array Oper} {Q : Exit → Act → World → Prop} {r : β} {j : Nat} {o : Oper} {K : Tm → Heap → Option β}
    (ho : ops[j]? = some o) (hB : operB E nt o = true) {φ : Phi} {tm : Tm} {H : Heap} {a : Act} {w : World} (hs : St w0 φ tm H nt a w) (h : stepO E.ti (prims E cal β) (chkA ops.toList) ops.toList o tm H K = some r) {R : Act → World → Prop}
    (hR : ∀ (φ' : Phi) (v : AV) (u : Value) (H' : Heap) (w' : World), PLe φ φ' → HR w0 φ' w' H' → VR w0 φ' v u → K (putT tm o.dst v) H' = some r → R (a.put o.dst u) w') :
    wpOp P ops Q j (fun a' w' => (j ∉ dsOf E ops → Below w.heap.size w w') ∧ R a' w') a w := by
  obtain ⟨hchk, h⟩ := stepO_some h
  have hB' := hB
  simp only [operB, Bool.and_eq_true] at hB'
  unfold wpOp
  simp only [ho]
  rcases guard_sound (n := nt) hs.tr h with ⟨hw, h⟩ | ⟨hw, h⟩
  · rw [if_pos hw]
    left
    refine op_sound hT hc hB'.1 hsz hs.hr hs.tr h _ Q fun u w' ⟨⟨v, φ', H', h1, h2, h3, h4⟩, hcalm⟩ => ?_
    refine ⟨fun hnd => hcalm ?_, hR φ' v u H' w' h2 h3 h4 h1⟩
    have hlt : j < ops.size := (Array.getElem?_eq_some_iff.1 ho).1
    have : (calmOp E o.op || quietB E.ti o.op || (appA ops.toList o).isSome) = true := by
      cases hh : (calmOp E o.op || quietB E.ti o.op || (appA ops.toList o).isSome) with
      | true => rfl
      | false =>
        refine absurd (List.mem_filter.2 ⟨List.mem_range.2 hlt, ?_⟩) hnd
        rw [ho]
        simp only [hh]
        rfl
    simp only [Bool.or_eq_true] at this
    rcases this with (h | h) | h
    · exact .inl h
    · exact .inr (.inl h)
    · obtain ⟨x, hx⟩ := Option.isSome_iff_exists.1 h
      refine .inr (.inr ⟨_, x, hx, ?_⟩)
      simpa [chkA, hx] using hchk
  · rw [hw]
    exact ⟨fun _ => Below.refl _ _, hR φ (.sc undef) undef H w (PLe.refl _) hs.hr (VR_sc _ _ _) h⟩

theorem plan_sound {E : Env} (hT : TabOk P E.ti) (hsz : ∀ t i, E.ti t = some i → i.ik = some .u8 → i.size = 1) {cal : Cal} {w0 : World} (hc : CallOk P E cal w0) {nt : Nat} {ops : Array Oper} {Q : Exit → Act → World → Prop} {K : Tm → Heap → Option β} {r : β}
    (hB : ∀ (i : Nat) (o : Oper), ops[i]? = some o → operB E nt o = true) (hsel : Region.noSelect ops = true) (hpan : ∀ c a w, ¬ Q (.panic c) a w) :
    ∀ (l : PI) (os : PT) (listed : Array Bool) (φ : Phi) (tm : Tm) (H : Heap) (a : Act) (w : World), planGo E ops (dsOf E ops) l listed = true → Closed ops listed → pickPI ops.toList l = some os → St w0 φ tm H nt a w →
      evalPT E.ti (prims E cal β) (chkA ops.toList) ops.toList os tm H K = some r → (∀ a w, After w0 φ nt K r a w → Q .normal a w) → wpAnyO P ops Q (dsOf E ops) l.len listed a w
  | .nil, os, listed, φ, tm, H, a, w, hp, _, hpk, hs, h, hQ => by
    simp only [pickPI, Option.some.injEq] at hpk
    subst hpk
    exact ⟨by simpa [planGo] using hp, hQ a w ⟨φ, tm, H, PLe.refl _, hs, h⟩⟩
  | .one i l, os, listed, φ, tm, H, a, w, hp, hcl, hpk, hs, h, hQ => by
    simp only [pickPI] at hpk
    split at hpk
    · rename_i o os' ho' hos
      simp only [Option.some.injEq] at hpk
      subst hpk
      have ho : ops[i]? = some o := by simpa using ho'
      have hst : stepO E.ti (prims E cal β) (chkA ops.toList) ops.toList o tm H (fun tm H => evalPT E.ti (prims E cal β) (chkA ops.toList) ops.toList os' tm H K) = some r := h
      obtain ⟨hchk, h⟩ := stepO_some hst
      have hB' := hB i o ho
      simp only [operB, Bool.and_eq_true] at hB'
      have hd : ∀ t, o.dst = some t → t < nt := by
        intro t ht
        have := hB'.2
        rw [ht] at this
        simpa using this
      simp only [planGo, ho, Bool.and_eq_true, Bool.or_eq_true] at hp
      obtain ⟨hp, hp'⟩ := hp
      -- the rest
      have rest : ∀ (φ' : Phi) (v : AV) (u : Value) (H' : Heap) (w' : World), i ∈ Region.ready .any ops listed → PLe φ φ' → HR w0 φ' w' H' → VR w0 φ' v u → evalPT E.ti (prims E cal β) (chkA ops.toList) ops.toList os' (putT tm o.dst v) H' K = some r →
          wpAnyO P ops Q (dsOf E ops) l.len (listed.setIfInBounds i true) (a.put o.dst u) w' := by
        intro φ' v u H' w' hi h1 h2 h3 h4
        exact plan_sound hT hsz hc hB hsel hpan l os' _ φ' _ H' _ w' hp' (hcl.set hi) hos (hs.put h1 h2 h3 hd) h4 fun a w ⟨φ2, tm2, H2, q1, q2, q3⟩ => hQ a w ⟨φ2, tm2, H2, PLe.trans h1 q1, q2, q3⟩
      rcases hp with ⟨⟨hq, hfree⟩, hrdy⟩ | hone
      · have hrdy : i ∈ Region.ready .any ops listed := by simpa using hrdy
        have hqu : quietB E.ti o.op = true := by
          rcases hq with hq | hq
          · exact hq.2
          · exact hq.1
        have hQ' : ∀ v, ∀ c a w, Q (.panic c) (a.put o.dst v) w → Q (.panic c) a w := fun v c a w h => absurd h (hpan _ _ _)
        rcases guard_sound (n := nt) hs.tr h with ⟨hw, h⟩ | ⟨hw, h⟩
        · obtain ⟨v, u, h1, h2, h3, h4⟩ := quiet_sound hT cal hqu hB'.1 hs.hr hs.tr h
          have hrest := rest φ v u H w hrdy (PLe.refl _) hs.hr h2 h1
          rcases hq with hq | hq
          · exact wpAnyO_first (S := fun _ => True) (fun _ _ _ _ => trivial) ho (Region.noSelect_spec hsel) (hQ' u) ops.size _ listed a w (Region.free_spec ho hfree) hcl (fun _ _ _ => .inl fun _ => trivial) hrdy (.inl ⟨hw, fun w' _ => h4 hq.1 w'⟩) trivial hrest
          · refine wpAnyO_first (S := fun w' => Below w.heap.size w w') (fun w1 w2 h1 h2 => ?_) ho (Region.noSelect_spec hsel) (hQ' u) ops.size _ listed a w (Region.free_spec ho hfree) hcl (fun d hdm hun => .inr ?_) hrdy (.inl ⟨hw, fun w' hw' => h3 w' hw'⟩) (Below.refl _ _) hrest
            · exact h1.trans ⟨h2.os, h2.tape, h2.output, h2.size, fun b hb => h2.block b (Nat.lt_of_lt_of_le hb h1.size)⟩
            · have := List.all_eq_true.1 hq.2 d hdm
              rw [hun] at this
              simpa using this
        · have hrest := rest φ (.sc undef) undef H w hrdy (PLe.refl _) hs.hr (VR_sc _ _ _) h
          exact wpAnyO_first (S := fun _ => True) (fun _ _ _ _ => trivial) ho (Region.noSelect_spec hsel) (hQ' undef) ops.size _ listed a w (Region.free_spec ho hfree) hcl (fun _ _ _ => .inl fun _ => trivial) hrdy (.inr ⟨hw, rfl⟩) trivial hrest
      · have hone : Region.ready .any ops listed = [i] := by simpa using hone
        have hrdy : i ∈ Region.ready .any ops listed := by rw [hone]; exact List.mem_cons_self
        refine ⟨fun h => (by rw [hone] at h; cases h), fun j hj => ?_⟩
        rw [hone] at hj
        have : j = i := by simpa using hj
        subst this
        exact hone_step hT hsz hc ho (hB j o ho) hs hst fun φ' v u H' w' h1 h2 h3 h4 => rest φ' v u H' w' hrdy h1 h2 h3 h4
    · cases hpk
  | .two i l j m, os, listed, φ, tm, H, a, w, hp, hcl, hpk, hs, h, hQ => by
    simp only [pickPI] at hpk
    split at hpk
    · rename_i o r1 o' r2 ho1 hr1 ho2 hr2
      simp only [Option.some.injEq] at hpk
      subst hpk
      have ho : ops[i]? = some o := by simpa using ho1
      have ho' : ops[j]? = some o' := by simpa using ho2
      obtain ⟨h1, h2⟩ := pBoth_some (show pBoth (stepO E.ti (prims E cal β) (chkA ops.toList) ops.toList o tm H (fun tm H => evalPT E.ti (prims E cal β) (chkA ops.toList) ops.toList r1 tm H K)) (stepO E.ti (prims E cal β) (chkA ops.toList) ops.toList o' tm H (fun tm H => evalPT E.ti (prims E cal β) (chkA ops.toList) ops.toList r2 tm H K)) = some r from h)
      simp only [planGo, Bool.and_eq_true, Bool.or_eq_true, beq_iff_eq] at hp
      obtain ⟨⟨⟨hready, hlen⟩, hp1⟩, hp2⟩ := hp
      have hmem : ∀ z, z ∈ Region.ready .any ops listed ↔ z = i ∨ z = j := by
        intro z
        rcases hready with e | e <;> rw [e] <;> simp [or_comm]
      have hdst : ∀ (z : Nat) (oz : Oper), ops[z]? = some oz → ∀ t, oz.dst = some t → t < nt := by
        intro z oz hz t ht
        have := hB z oz hz
        simp only [operB, Bool.and_eq_true] at this
        have := this.2
        rw [ht] at this
        simpa using this
      refine ⟨fun h => ?_, fun z hz => ?_⟩
      · have := (hmem i).2 (.inl rfl)
        rw [h] at this
        cases this
      · rcases (hmem z).1 hz with rfl | rfl
        · exact hone_step hT hsz hc ho (hB _ o ho) hs h1 fun φ' v u H' w' g1 g2 g3 g4 =>
            plan_sound hT hsz hc hB hsel hpan l r1 _ φ' _ H' _ w' hp1 (hcl.set hz) hr1 (hs.put g1 g2 g3 (hdst _ o ho)) g4 fun a w ⟨φ2, tm2, H2, q1, q2, q3⟩ => hQ a w ⟨φ2, tm2, H2, PLe.trans g1 q1, q2, q3⟩
        · refine hone_step hT hsz hc ho' (hB _ o' ho') hs h2 fun φ' v u H' w' g1 g2 g3 g4 => ?_
          have := plan_sound hT hsz hc hB hsel hpan m r2 _ φ' _ H' _ w' hp2 (hcl.set hz) hr2 (hs.put g1 g2 g3 (hdst _ o' ho')) g4 fun a w ⟨φ2, tm2, H2, q1, q2, q3⟩ => hQ a w ⟨φ2, tm2, H2, PLe.trans g1 q1, q2, q3⟩
          rwa [← hlen] at this
    · cases hpk

end Go.Proofs.Ytfpmccedangjoaa.Abs
