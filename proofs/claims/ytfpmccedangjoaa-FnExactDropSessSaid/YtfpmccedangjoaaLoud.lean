/- One operation, whatever it is, with calls: what the evaluator does is what the machine does. -/
import Derived.Test.YtfpmccedangjoaaOp
import Derived.Still
set_option linter.unusedVariables false
namespace Go.Proofs.Ytfpmccedangjoaa.Abs
open Go Go.RowKit

variable {P : Program} {β : Type}

/-- A call, of a function with a body or of one without. -/
def CX (P : Program) (f : FuncId) (us : Array Value) (w : World) (R : Value → World → Prop) : Prop :=
  (∃ u w', (callFunc f us).run P w = .ok (.value u) w' ∧ R u w') ∨ ((callFunc f us).run P w = .ok (.enter f us) w ∧ Calls P f us w fun e w' => ∃ u, e = .returned u ∧ R u w')

theorem CX.mono {f : FuncId} {us : Array Value} {w : World} {R R' : Value → World → Prop} (h : CX P f us w R) (hr : ∀ u w', R u w' → R' u w') : CX P f us w R' := by
  rcases h with ⟨u, w', h1, h2⟩ | ⟨h1, h2⟩
  · exact .inl ⟨u, w', h1, hr _ _ h2⟩
  · exact .inr ⟨h1, h2.mono fun e w' ⟨u, h3, h4⟩ => ⟨u, h3, hr _ _ h4⟩⟩

/-- What a call leaves. -/
def Left (w0 : World) (φ : Phi) (k : AV → Heap → Option β) (r : β) (u : Value) (w' : World) : Prop :=
  ∃ v φ' H', k v H' = some r ∧ PLe φ φ' ∧ HR w0 φ' w' H' ∧ VR w0 φ' v u

/-- A function that is called as on a tree, or by a shelf's contract: nothing that was there changes. -/
def calm (E : Env) (f : FuncId) : Bool := (E.ext f).isSome || !E.hm f

def CallOk (P : Program) (E : Env) (cal : Cal) (w0 : World) : Prop :=
  ∀ (β : Type) (ty : Nat) (f : FuncId) (args : List AV) (H : Heap) (k : AV → Heap → Option β) (r : β) (φ : Phi) (w : World) (us : List Value), callF E cal ty f args H k = some r → HR w0 φ w H → us.length = args.length →
    VRs w0 φ args (fun j => us[j]?) → CX P f us.toArray w fun u w' => Left w0 φ k r u w' ∧ (calm E f = true → Below w.heap.size w w')

/-- What leaves all that was there as it was; 'x = .nl' of an append is looked at where it is done. -/
def calmOp (E : Env) : Op → Bool
  | .alloc _ | .box _ _ | .buildSlice _ _ _ | .makeSlice _ _ _ | .convert _ _ _ => true
  | .call c =>
    match c.callee with
    | .value (.func f) => calm E f
    | _ => false
  | _ => false

theorem VRs_map {w0 : World} {φ : Phi} {tm : Tm} {a : Act} (htm : TR w0 φ tm a) (l : List Operand) : VRs w0 φ (l.map (ev tm)) (fun q => (l.map a.eval)[q]?) := by
  rw [VRs_iff]
  intro q y hq
  rw [List.getElem?_map] at hq
  obtain ⟨x, hx, rfl⟩ := Option.map_eq_some_iff.1 hq
  exact ⟨_, by rw [List.getElem?_map, hx]; rfl, ev_VR htm x⟩

theorem VRs_app {w0 : World} {φ : Phi} {xs ys : List AV} {us vs : List Value} (hl : us.length = xs.length) (h1 : VRs w0 φ xs (fun j => us[j]?)) (h2 : VRs w0 φ ys (fun j => vs[j]?)) : VRs w0 φ (xs ++ ys) (fun j => (us ++ vs)[j]?) := by
  rw [VRs_iff] at *
  intro q y hq
  by_cases hlt : q < xs.length
  · rw [List.getElem?_append_left hlt] at hq
    rw [List.getElem?_append_left (by omega)]
    exact h1 q y hq
  · rw [List.getElem?_append_right (by omega)] at hq
    rw [List.getElem?_append_right (by omega), hl]
    exact h2 _ y hq

/-- The operation is done, and what it leaves. -/
def Ran (P : Program) (o : Oper) (a : Act) (w : World) (R : Value → World → Prop) : Prop := ∀ (K : Act → World → Prop) (Q : Exit → Act → World → Prop), (∀ u w', R u w' → K (a.put o.dst u) w') → o.wp P a w K Q

theorem Ran.of_value {o : Oper} {a : Act} {w : World} {R : Value → World → Prop} {u : Value} {w' : World} (h : (execOp a.eval o).run P w = .ok (.value u) w') (hr : R u w') : Ran P o a w R := by
  intro K Q hK
  unfold Oper.wp
  rw [h]
  exact hK _ _ hr
theorem Ran.of_skip {o : Oper} {a : Act} {w : World} {R : Value → World → Prop} {w' : World} (h : (execOp a.eval o).run P w = .ok .skip w') (hr : R undef w') : Ran P o a w R := by
  intro K Q hK
  unfold Oper.wp
  rw [h]
  exact hK _ _ hr
theorem Ran.of_sem {o : Oper} {a : Act} {w : World} {R : Value → World → Prop} {s : Sem Value} (he : (execOp a.eval o).run P w = (do pure (.value (← s)) : Sem Next).run P w) {u : Value} {w' : World} (h : s.run P w = .ok u w') (hr : R u w') : Ran P o a w R :=
  Ran.of_value (by rw [he]; simp only [Sem.run_bind, h, Result.andThen_ok, Sem.run_pure]) hr

/-- Nothing that was there is changed by the operation. -/
def Calm (E : Env) (o : Oper) (tm : Tm) : Prop := calmOp E o.op = true ∨ quietB E.ti o.op = true ∨ ∃ all x, appA all o = some x ∧ isNl (ev tm x) = true

theorem op_sound {E : Env} (hT : TabOk P E.ti) {cal : Cal} {w0 : World} (hc : CallOk P E cal w0) {o : Oper} (hx : idxB E.ti o.op = true) (hsz : ∀ t i, E.ti t = some i → i.ik = some .u8 → i.size = 1) {φ : Phi} {w : World} {H : Heap} (hr : HR w0 φ w H) {tm : Tm} {a : Act} (htm : TR w0 φ tm a)
    {k : AV → Heap → Option β} {r : β} (h : evalOp E.ti (prims E cal β) o.op o.type tm H k = some r) :
    Ran P o a w fun u w' => Left w0 φ k r u w' ∧ (Calm E o tm → Below w.heap.size w w') := by
  by_cases hq : quietB E.ti o.op = true
  · obtain ⟨v, u, h1, h2, h3, _⟩ := quiet_sound hT cal hq hx hr htm h
    exact Ran.of_value (h3 w (Below.refl _ _)) ⟨⟨v, φ, H, h1, PLe.refl _, hr, h2⟩, fun _ => Below.refl _ _⟩
  have ofB : ∀ {s : Sem Value}, (execOp a.eval o).run P w = (do pure (.value (← s)) : Sem Next).run P w → DoneB w0 φ w H k r (fun u w' => s.run P w = .ok u w') →
      Ran P o a w fun u w' => Left w0 φ k r u w' ∧ (Calm E o tm → Below w.heap.size w w') := by
    intro s he ⟨v, u, φ', H', w', h1, h2, h3, h4, h5, h6⟩
    exact Ran.of_sem he h6 ⟨⟨v, φ', H', h1, h2, h3, h5⟩, fun _ => h4⟩
  obtain ⟨dst, op, ty, pos, after, guard⟩ := o
  simp only at hq hx h
  cases op <;> simp only [quietB, not_true_eq_false] at hq <;> simp only [evalOp, prims] at h
  case alloc t =>
    split at h
    · rename_i i hi
      exact ofB rfl (alloc_sound (hT _ _ hi) hr h)
    · cases h
  case box t x => exact ofB rfl (box_sound t hr (ev_VR htm x) h)
  case buildSlice t n parts =>
    split at h
    · rename_i i hi
      split at h
      · rename_i j hs hj
        split at h
        · rename_i hp
          refine ofB rfl (buildNil_sound (hT _ _ hi) hs (hT _ _ hj) hr ?_ h)
          have : parts.toList = [] := by
            cases hl : parts.toList with
            | nil => rfl
            | cons q l =>
              obtain ⟨f, x⟩ := q
              rw [hl] at hp
              simp only [partsA] at hp
              split at hp <;> cases hp
          simp [this]
        · rename_i m l hp
          split at h
          · rename_i hle
            obtain ⟨cs, hcs, h⟩ := Option.bind_eq_some_iff.1 h
            exact ofB rfl (buildSl_sound (hT _ _ hi) hs (hT _ _ hj) hr htm (Nat.le_of_ble_eq_true hle) hp hcs h)
          · cases h
        · cases h
      · cases h
    · cases h
  case store t x y =>
    split at h
    · rename_i i hi
      obtain ⟨H', w', h1, h2, h3, h4⟩ := store_sound (hT _ _ hi) hr (ev_VR htm x) (ev_VR htm y) h
      refine Ran.of_skip (w' := w') ?_ ⟨⟨_, φ, H', h1, PLe.refl _, h2, VR_sc _ _ _⟩, ?_⟩
      · simp only [execOp, Sem.run_bind, h4, Result.andThen_ok, Sem.run_pure]
      · rintro (h | h | ⟨all, x, h, _⟩) <;> cases h
    · cases h
  case convert s d x =>
    split at h
    · rename_i i j hi hj
      rw [hi, hj] at hq
      split at h
      · rename_i kd hk
        obtain ⟨d1, g1, g2⟩ := (hT _ _ hj).desc
        exact absurd (by cases d1 <;> simp [descOk, hk] at g2 ; simp [g2.1.1.2]) hq
      · rename_i hk
        split at h
        · rename_i h1 h2
          exact absurd (by simp [desc_notstr (hT _ _ hj) hk h2]) hq
        · rename_i h1 h2
          exact absurd (by simp [h1]) hq
        · rename_i h1 h2
          split at h
          · rename_i e hs he
            split at h
            · rename_i hu
              exact ofB rfl (cvSB_sound (hT _ _ hi) (hT _ _ hj) h1 hs (hT _ _ he) hu hr (ev_VR htm x) h)
            · cases h
          · cases h
        · cases h
    · cases h
  case makeSlice t x y =>
    split at h
    · rename_i i hi
      split at h
      · rename_i j hs hj
        exact ofB rfl (make_sound (hT _ _ hi) hs (hT _ _ hj) hr (ev_VR htm x) (ev_VR htm y) h)
      · cases h
    · cases h
  case call c =>
    split at h
    · rename_i f hf
      -- a function
      have hv := ev_VR htm f
      unfold pCall at h
      split at h
      · rename_i g first cap hg
        rw [hg, VR] at hv
        obtain ⟨xs, ys, hfv, l1, l2, v1, v2⟩ := hv
        have key := hc β ty g _ H k r φ w (xs ++ c.args.toList.map a.eval ++ ys) h hr (by simp [l1, l2]) (VRs_app (by simp [l1]) (VRs_app l1 v1 (VRs_map htm _)) v2)
        have hrun : (execOp a.eval ⟨dst, .call c, ty, pos, after, guard⟩).run P w = (callFunc g (xs ++ c.args.toList.map a.eval ++ ys).toArray).run P w := by
          have e : (xs ++ c.args.toList.map a.eval ++ ys).toArray = xs.toArray ++ c.args.map a.eval ++ ys.toArray := by
            apply Array.ext'
            simp
          rw [e]
          simp only [execOp, resolve, hf, Sem.run_bind, hfv, Deferred.ofValue, Sem.run_pure, Result.andThen_ok, invoke]
        have hcalm : calmOp E (.call c) = true → calm E g = true := by
          intro h
          simp only [calmOp, hf] at h
          cases f <;> simp only at h <;> try cases h
          rename_i g'
          simp only [Act.eval] at hfv
          cases hfv
          exact h
        have hcalm2 : Calm E ⟨dst, .call c, ty, pos, after, guard⟩ tm → calm E g = true := by
          rintro (h | h | ⟨all, x, h, _⟩)
          · exact hcalm h
          · exact absurd h hq
          · simp [appA, hf] at h
        intro K Q hK
        unfold Oper.wp
        rw [hrun]
        rcases key with ⟨u, w', k1, k2, k3⟩ | ⟨k1, k2⟩
        · rw [k1]
          exact hK u w' ⟨k2, fun hh => k3 (hcalm2 hh)⟩
        · rw [k1]
          refine k2.mono fun e w' ⟨u, h3, h4, h5⟩ => ?_
          subst h3
          exact hK u w' ⟨h4, fun hh => h5 (hcalm2 hh)⟩
      · cases h
    · rename_i b hb
      -- append
      split at h
      · exact absurd (by rw [hb]) hq
      · rename_i x t hxs hts
        have hargs : c.args = #[x] := by apply Array.ext'; simpa using hxs
        have htys : c.argTypes = #[t] := by apply Array.ext'; simpa using hts
        have he : (execOp a.eval ⟨dst, .call c, ty, pos, after, guard⟩).run P w = ((do pure (.value (← Builtin.clear_ #[t] ty #[a.eval x])) : Sem Next)).run P w := by
          have hm : (#[x] : Array Operand).map a.eval = #[a.eval x] := by simp
          simp only [execOp, Sem.run_bind, resolve_builtin a.eval c ty .clear hb, Result.andThen_ok, invoke, builtin, hargs, htys, hm]
        split at h
        · rename_i i hi
          split at h
          · rename_i j hs hj
            obtain ⟨H', w', g1, g2, g3, g4⟩ := clear_sound (ty := ty) (hT _ _ hi) hs (hT _ _ hj) hr (ev_VR htm x) h
            refine Ran.of_sem he g4 ⟨⟨_, φ, H', g1, PLe.refl _, g2, VR_sc _ _ _⟩, ?_⟩
            rintro (hh | hh | ⟨all, z, hh, hz⟩)
            · simp [calmOp, hb] at hh
            · simp [quietB, hb] at hh
            · simp [appA, hb] at hh
          · cases h
        · cases h
      · rename_i x y t t' hxs hts
        have hargs : c.args = #[x, y] := by apply Array.ext'; simpa using hxs
        have htys : c.argTypes = #[t, t'] := by apply Array.ext'; simpa using hts
        have he : (execOp a.eval ⟨dst, .call c, ty, pos, after, guard⟩).run P w = ((do pure (.value (← Builtin.append_ #[t, t'] ty #[a.eval x, a.eval y])) : Sem Next)).run P w := by
          have hm : (#[x, y] : Array Operand).map a.eval = #[a.eval x, a.eval y] := by simp
          simp only [execOp, Sem.run_bind, resolve_builtin a.eval c ty .append hb, Result.andThen_ok, invoke, builtin, hargs, htys, hm]
        have hnl : ∀ {w' : World}, (ev tm x = .nl → Below w.heap.size w w') → Calm E ⟨dst, .call c, ty, pos, after, guard⟩ tm → Below w.heap.size w w' := by
          intro w' hw hh
          rcases hh with hh | hh | ⟨all, z, hh, hz⟩
          · simp [calmOp, hb] at hh
          · simp [quietB, hb] at hh
          · have e : z = x := by
              simp only [appA, hb, hxs] at hh
              split at hh
              · rename_i tt l htt
                split at hh
                · cases hh
                  cases htt
                  rfl
                · cases hh
              · cases hh
            subst e
            apply hw
            cases hev : ev tm z <;> rw [hev] at hz <;> first | rfl | cases hz
        split at h
        · rename_i i i' hi hi'
          split at h
          · cases h
          · split at h
            · rename_i j hs hj
              split at h
              · rename_i hs'
                split at h
                · rename_i hu
                  obtain ⟨v, u, φ', H', w', g1, g2, g3, g4, g5, g6, g7⟩ := appS_sound (ty := ty) (hT _ _ hi) hs (hT _ _ hj) (hT _ _ hi') hs' (hsz _ _ hj hu) hr (ev_VR htm x) (ev_VR htm y) h
                  exact Ran.of_sem he g6 ⟨⟨v, φ', H', g1, g2, g3, g5⟩, hnl g7⟩
                · cases h
              · rename_i hs'
                split at h
                · obtain ⟨v, u, φ', H', w', g1, g2, g3, g4, g5, g6, g7⟩ := app_sound (ty := ty) (hT _ _ hi) hs (hT _ _ hj) (hT _ _ hi') hs' hr (ev_VR htm x) (ev_VR htm y) h
                  exact Ran.of_sem he g6 ⟨⟨v, φ', H', g1, g2, g3, g5⟩, hnl g7⟩
                · cases h
              · cases h
            · cases h
        · cases h
      · cases h
    · cases h
  all_goals cases h

end Go.Proofs.Ytfpmccedangjoaa.Abs
