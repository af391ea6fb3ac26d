/- Calls, however deep: what the evaluator says of a function is what the machine does. -/
import Derived.Test.YtfpmccedangjoaaTree
set_option linter.unusedVariables false
set_option linter.unusedSimpArgs false
namespace Go.Proofs.Ytfpmccedangjoaa.Abs
open Go Go.RowKit

variable {P : Program}

/-- What is asked of the shelf's functions. -/
def ExtOk (P : Program) (E : Env) (J : World → Prop) : Prop :=
  ∀ (f : FuncId) (g : Nat → List AV → Option AV), E.ext f = some g → ∀ (w : World), J w → ∀ (ty : Nat) (vs : List AV) (us : List Value) (t : AV), us.length = vs.length → VRs w noPhi vs (fun j => us[j]?) → g ty vs = some t →
    CX P f us.toArray w fun u w' => ∃ φ' Hc v ids, HR w φ' w' Hc ∧ VR w φ' v u ∧ ownT E.ti E.tp Hc 8 ty v = some (t, ids) ∧ ids.Nodup

/-- J: what is told of the world (the library's tables), which stays. -/
structure EnvOk (P : Program) (E : Env) (J : World → Prop) : Prop where
  tab : TabOk P E.ti
  byte : ∀ t i, E.ti t = some i → i.ik = some .u8 → i.size = 1
  mixed : P.follows .mixedOrders = true
  fns : ∀ f i, E.fs f = some i → FnOk P E f i
  ext : ExtOk P E J
  stays : ∀ w w' : World, J w → Below w.heap.size w w' → J w'

theorem HR.start (w : World) : HR w noPhi w [] := by
  refine ⟨Below.refl _ _, ?_, ?_, ?_, ?_⟩
  · intro i k b o sz hi
    cases hi
  · intro i k hi
    cases hi
  · intro i i' k k' b o sz o' sz' hi
    cases hi
  · intro i p hp
    cases hp

/-- A tree is laid into the caller's heap. -/
theorem left_of_tree {E : Env} {w0 w w' : World} {φ φc : Phi} {H Hc : Heap} (hr : HR w0 φ w H) (hc : HR w φc w' Hc) {ty : Nat} {v t : AV} {ids : List Nat} {u : Value} (hv : VR w φc v u) (ho : ownT E.ti E.tp Hc 8 ty v = some (t, ids)) (hn : ids.Nodup)
    {β : Type} {k : AV → Heap → Option β} {r : β} (hk : k (instT E.ti E.tp H.length ty t).1 (H ++ (instT E.ti E.tp H.length ty t).2) = some r) : Left w0 φ k r u w' ∧ Below w.heap.size w w' := by
  refine ⟨?_, hc.bel⟩
  obtain ⟨φ', h1, h2, h3⟩ := inst_sound hc hr.bel.size 8 ty v t ids u H φ ho hv hn (hr.later hc.bel) (by
    intro id hid b o sz hpl q k o' sz' hk hl hq
    obtain ⟨k1, e1, l1⟩ := own_live 8 ty v t ids ho id hid
    have g1 := (hc.blk id k1 b o sz e1 l1 hpl).1
    obtain ⟨_, arr, e, fr, g2, _⟩ := hr.blk q k b o' sz' hk hl hq
    have := (Array.getElem?_eq_some_iff.1 g2).1
    omega)
  exact ⟨_, φ', _, hk, h3.le, h1, h2⟩

theorem fn_sound {E : Env} {J : World → Prop} (h : EnvOk P E J) {n : Nat} {w0 : World} (ih : CallOk P E (evalFn E n) w0) {β : Type} {f : FuncId} {args : List AV} {H : Heap} {k : AV → Heap → Option β} {r : β} {w : World} {φ : Phi} {us : List Value} (he : evalFn E (n + 1) β f args H k = some r) (hr : HR w0 φ w H)
    (hl : us.length = args.length) (ha : VRs w0 φ args (fun j => us[j]?)) : (callFunc f us.toArray).run P w = .ok (.enter f us.toArray) w ∧ Calls P f us.toArray w fun e w' => ∃ u, e = .returned u ∧ Left w0 φ k r u w' := by
  simp only [evalFn] at he
  split at he
  · rename_i i hi
    split at he
    · rename_i hle
      exact body_sound h.tab h.byte ih h.mixed (h.fns f i hi) he hr hl (Nat.le_of_ble_eq_true hle) ha
    · cases he
  · cases he

theorem call_ok {E : Env} {J : World → Prop} (h : EnvOk P E J) : ∀ n w0, J w0 → CallOk P E (evalFn E n) w0 := by
  intro n
  induction n with
  | zero =>
    intro w0 hj β ty f args H k r φ w us hcall hr hl ha
    have hjw := h.stays w0 w hj hr.bel
    unfold callF at hcall
    split at hcall
    · rename_i g hg
      simp only [callX, Option.bind_eq_some_iff] at hcall
      obtain ⟨vs, hvs, t, ht, hk⟩ := hcall
      refine (h.ext f g hg w hjw ty vs us t (by rw [hl, (mapM_get hvs).1]) (views_sound hr hvs ha) ht).mono fun u w' ⟨φc, Hc, v, ids, q1, q2, q3, q4⟩ => ?_
      obtain ⟨g1, g2⟩ := left_of_tree hr q1 q2 q3 q4 hk
      exact ⟨g1, fun _ => g2⟩
    · split at hcall
      · cases hcall
      · simp only [callT, treeOf, Option.bind_eq_some_iff] at hcall
        obtain ⟨vs, hvs, t, ht, hk⟩ := hcall
        cases ht
  | succ n ih =>
    intro w0 hj β ty f args H k r φ w us hcall hr hl ha
    have hjw := h.stays w0 w hj hr.bel
    unfold callF at hcall
    split at hcall
    · rename_i g hg
      simp only [callX, Option.bind_eq_some_iff] at hcall
      obtain ⟨vs, hvs, t, ht, hk⟩ := hcall
      refine (h.ext f g hg w hjw ty vs us t (by rw [hl, (mapM_get hvs).1]) (views_sound hr hvs ha) ht).mono fun u w' ⟨φc, Hc, v, ids, q1, q2, q3, q4⟩ => ?_
      obtain ⟨g1, g2⟩ := left_of_tree hr q1 q2 q3 q4 hk
      exact ⟨g1, fun _ => g2⟩
    · rename_i hg
      split at hcall
      · rename_i hh
        obtain ⟨g1, g2⟩ := fn_sound h (ih w0 hj) hcall hr hl ha
        refine .inr ⟨g1, g2.mono fun e w' ⟨u, q1, q2⟩ => ⟨u, q1, q2, fun hcalm => ?_⟩⟩
        simp [calm, hg, hh] at hcalm
      · simp only [callT, treeOf, Option.bind_eq_some_iff] at hcall
        obtain ⟨vs, hvs, t, ht, hk⟩ := hcall
        obtain ⟨g1, g2⟩ := fn_sound h (ih w hjw) ht (HR.start w) (by rw [hl, (mapM_get hvs).1]) (views_sound hr hvs ha)
        refine .inr ⟨g1, g2.mono fun e w' ⟨u, q1, v, φc, Hc, q2, q3, q4, q5⟩ => ⟨u, q1, ?_⟩⟩
        simp only [ownTree, Option.bind_eq_some_iff] at q2
        obtain ⟨p, hp, q2⟩ := q2
        split at q2
        · rename_i hnd
          cases q2
          obtain ⟨g3, g4⟩ := left_of_tree hr q4 q5 hp hnd hk
          exact ⟨g3, fun _ => g4⟩
        · cases q2

/-- WHAT A LAW USES: a function whose arguments are told as trees, evaluated to a value. -/
theorem tree_sound {E : Env} {J : World → Prop} (h : EnvOk P E J) {n ty : Nat} {f : FuncId} {args : List AV} {t : AV} (ht : tree E n ty f args = some t) {w : World} (hj : J w) {us : List Value} (hl : us.length = args.length) (ha : VRs w noPhi args (fun j => us[j]?)) :
    Calls P f us.toArray w fun e w' => ∃ u, e = .returned u ∧ Below w.heap.size w w' ∧ ∃ φ' Hc v ids, HR w φ' w' Hc ∧ VR w φ' v u ∧ ownT E.ti E.tp Hc 8 ty v = some (t, ids) ∧ ids.Nodup := by
  cases n with
  | zero => cases ht
  | succ n =>
    obtain ⟨g1, g2⟩ := fn_sound h (call_ok h n w hj) ht (HR.start w) hl ha
    refine g2.mono fun e w' ⟨u, q1, v, φc, Hc, q2, q3, q4, q5⟩ => ⟨u, q1, q4.bel, ?_⟩
    simp only [ownTree, Option.bind_eq_some_iff] at q2
    obtain ⟨p, hp, q2⟩ := q2
    split at q2
    · rename_i hnd
      cases q2
      exact ⟨φc, Hc, v, p.2, q4, q5, hp, hnd⟩
    · cases q2

theorem own_sc {ti : Nat → Option TI} {tp : Nat → Option (List Nat)} {Hc : Heap} {d ty : Nat} {v : AV} {x : Value} {ids : List Nat} (h : ownT ti tp Hc d ty v = some (.sc x, ids)) : v = .sc x := by
  cases d with
  | zero => cases h
  | succ d =>
    cases v <;> simp only [ownT] at h <;> try cases h
    · rfl
    · obtain ⟨i, _, h⟩ := Option.bind_eq_some_iff.1 h
      obtain ⟨j, _, h⟩ := Option.bind_eq_some_iff.1 h
      split at h
      · split at h
        · obtain ⟨cs, _, h⟩ := Option.bind_eq_some_iff.1 h
          obtain ⟨q, _, h⟩ := Option.bind_eq_some_iff.1 h
          cases h
        · cases h
      · cases h
    · obtain ⟨i, _, h⟩ := Option.bind_eq_some_iff.1 h
      obtain ⟨q, _, h⟩ := Option.bind_eq_some_iff.1 h
      cases h
    · obtain ⟨i, _, h⟩ := Option.bind_eq_some_iff.1 h
      obtain ⟨q, _, h⟩ := Option.bind_eq_some_iff.1 h
      cases h

theorem tree_bool {E : Env} {J : World → Prop} (h : EnvOk P E J) {n ty : Nat} {f : FuncId} {args : List AV} {b : Bool} (ht : tree E n ty f args = some (.sc (.bool b))) {w : World} (hj : J w) {us : List Value} (hl : us.length = args.length) (ha : VRs w noPhi args (fun j => us[j]?)) :
    Calls P f us.toArray w fun e w' => e = .returned (.bool b) ∧ Below w.heap.size w w' := by
  refine (tree_sound h ht hj hl ha).mono fun e w' ⟨u, q1, q2, φc, Hc, v, ids, q3, q4, q5, q6⟩ => ?_
  have := own_sc q5
  subst this
  rw [VR] at q4
  subst q4
  exact ⟨q1, q2⟩

end Go.Proofs.Ytfpmccedangjoaa.Abs
