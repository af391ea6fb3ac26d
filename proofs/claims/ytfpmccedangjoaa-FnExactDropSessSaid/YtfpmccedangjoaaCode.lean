/- Code, and a function's body: what the evaluator does is what the machine does. -/
import Derived.Test.YtfpmccedangjoaaRegion
import Derived.LoopN
set_option linter.unusedVariables false
set_option linter.unusedSimpArgs false
namespace Go.Proofs.Ytfpmccedangjoaa.Abs
open Go Go.RowKit

variable {P : Program} {β : Type}

/-- What is asked of a function's text. -/
def codeB (E : Env) (od : List (Nat × PI)) (nt : Nat) : Code → Bool
  | .skip => true
  | .region id ops false => regionB E nt ops
  | .region id ops true => regionB E nt ops && (match ordOf od id with | some l => planB E ops l | none => true)
  | .seq a b => codeB E od nt a && codeB E od nt b
  | .cond _ a b => codeB E od nt a && codeB E od nt b
  | .block _ a => codeB E od nt a
  | .loop a => codeB E od nt a
  | _ => true

def exOf : Exit → Option Ex
  | .normal => some .normal
  | .exit i => some (.exit i)
  | .ret => some .ret
  | _ => none

/-- What the code's end asks. -/
def Post (w0 : World) (φ : Phi) (nt : Nat) (k : Ex → Tm → Heap → Option β) (r : β) (e : Exit) (a : Act) (w : World) : Prop :=
  ∃ ex φ' tm H, exOf e = some ex ∧ PLe φ φ' ∧ St w0 φ' tm H nt a w ∧ k ex tm H = some r

theorem Post.up {w0 : World} {φ φ' : Phi} {nt : Nat} {k : Ex → Tm → Heap → Option β} {r : β} {e : Exit} {a : Act} {w : World} (hp : PLe φ φ') (h : Post w0 φ' nt k r e a w) : Post w0 φ nt k r e a w := by
  obtain ⟨ex, φ2, tm, H, h1, h2, h3, h4⟩ := h
  exact ⟨ex, φ2, tm, H, h1, PLe.trans hp h2, h3, h4⟩

theorem gt_nrm (tm : Tm) (i : Nat) : ∀ (l : List Nat), gt (l.map fun i => (i, gt tm i)) i = if i ∈ l then gt tm i else .any
  | [] => rfl
  | j :: l => by
    simp only [List.map_cons, gt]
    by_cases hj : j = i
    · subst hj
      simp [Nat.beq_refl]
    · have e : Nat.beq j i = false := by
        cases hb : Nat.beq j i
        · rfl
        · exact absurd (Nat.eq_of_beq_eq_true hb) hj
      rw [e]
      simp only [Bool.false_eq_true, if_false]
      rw [gt_nrm tm i l]
      simp [Ne.symm hj]

theorem St.nrm {w0 : World} {φ : Phi} {tm : Tm} {H : Heap} {nt : Nat} {a : Act} {w : World} (h : St w0 φ tm H nt a w) (n : Nat) : St w0 φ (nrm n tm) H nt a w := by
  refine ⟨h.hr, fun i => ?_, h.size, h.defers⟩
  unfold Abs.nrm
  rw [gt_nrm]
  split
  · exact h.tr i
  · rw [VR]; trivial

theorem code_sound {E : Env} (hT : TabOk P E.ti) (hsz : ∀ t i, E.ti t = some i → i.ik = some .u8 → i.size = 1) {cal : Cal} {w0 : World} (hc : CallOk P E cal w0) (hm : P.follows .mixedOrders = true) {od : List (Nat × PI)} {nt n : Nat} {r : β} :
    ∀ (c : Code) (φ : Phi) (tm : Tm) (H : Heap) (a : Act) (w : World) (k : Ex → Tm → Heap → Option β), codeB E od nt c = true → St w0 φ tm H nt a w → evalCode E.ti (prims E cal β) od nt n c tm H k = some r → c.wp P (Post w0 φ nt k r) a w
  | .skip, φ, tm, H, a, w, k, hB, hs, h => wp_skip ⟨.normal, φ, tm, H, rfl, PLe.refl _, hs, h⟩
  | .region id ops false, φ, tm, H, a, w, k, hB, hs, h => by
    simp only [codeB, regionB] at hB
    simp only [evalCode] at h
    refine wp_region_list (ops_sound hT hsz hc ops.toList φ tm H a w (fun o ho => Array.all_eq_true_iff_forall_mem.1 hB o (by simpa using ho)) hs h fun a w ⟨φ', tm', H', h1, h2, h3⟩ => ⟨.normal, φ', tm', H', rfl, h1, h2, h3⟩)
  | .region id ops true, φ, tm, H, a, w, k, hB, hs, h => by
    simp only [codeB, Bool.and_eq_true] at hB
    simp only [evalCode] at h
    split at h
    · rename_i os hos
      obtain ⟨l, hl, hos⟩ := Option.bind_eq_some_iff.1 hos
      have hB2 := hB.2
      rw [hl] at hB2
      simp only [planB, Bool.and_eq_true, beq_iff_eq] at hB2
      refine wp_region_any hm (wpAny_of_O (ds := dsOf E ops) _ _ _ _ ?_)
      have hs' : St w0 φ tm H nt a { w with drawn := w.drawn + 1 } := by
        refine ⟨hs.hr.later ⟨rfl, rfl, rfl, Nat.le_refl _, fun _ _ => rfl⟩, hs.tr, hs.size, hs.defers⟩
      have key := plan_sound (Q := Post w0 φ nt k r) hT hsz hc (fun i o ho => Array.all_eq_true_iff_forall_mem.1 hB.1 o (Array.mem_of_getElem? ho)) hB2.1.2 (fun c a w ⟨ex, _, _, _, h1, _⟩ => by cases h1) l os _ φ tm H a _ hB2.2
        (fun j oj hj hl => by
          have hlt : j < ops.size := (Array.getElem?_eq_some_iff.1 hj).1
          simp [hlt] at hl) hos hs' h (fun a w ⟨φ', tm', H', h1, h2, h3⟩ => ⟨.normal, φ', tm', H', rfl, h1, h2, h3⟩)
      rw [hB2.1.1] at key
      exact key
    · cases h
  | .seq x y, φ, tm, H, a, w, k, hB, hs, h => by
    simp only [codeB, Bool.and_eq_true] at hB
    simp only [evalCode] at h
    refine wp_seq (wp_mono (code_sound hT hsz hc hm x φ tm H a w _ hB.1 hs h) fun e a w ⟨ex, φ', tm', H', h1, h2, h3, h4⟩ => ?_)
    cases e with
    | normal =>
      cases h1
      exact wp_mono (code_sound hT hsz hc hm y φ' tm' H' a w k hB.2 h3 h4) fun e a w h => Post.up h2 h
    | exit i => cases h1; exact ⟨_, φ', tm', H', rfl, h2, h3, h4⟩
    | ret => cases h1; exact ⟨_, φ', tm', H', rfl, h2, h3, h4⟩
    | _ => cases h1
  | .cond c x y, φ, tm, H, a, w, k, hB, hs, h => by
    simp only [codeB, Bool.and_eq_true] at hB
    simp only [evalCode] at h
    have h : ((asB (ev tm c)).bind fun t => if t then evalCode E.ti (prims E cal β) od nt n x tm H k else evalCode E.ti (prims E cal β) od nt n y tm H k) = some r := h
    obtain ⟨t, ht, h⟩ := Option.bind_eq_some_iff.1 h
    have hv := asB_VR (ev_VR hs.tr c) ht
    cases t with
    | true => exact wp_cond_true hv (code_sound hT hsz hc hm x φ tm H a w k hB.1 hs (by simpa using h))
    | false => exact wp_cond_false hv (code_sound hT hsz hc hm y φ tm H a w k hB.2 hs (by simpa using h))
  | .block id x, φ, tm, H, a, w, k, hB, hs, h => by
    simp only [codeB] at hB
    simp only [evalCode] at h
    refine wp_block (wp_mono (code_sound hT hsz hc hm x φ tm H a w _ hB hs h) fun e a w ⟨ex, φ', tm', H', h1, h2, h3, h4⟩ => ?_)
    cases e with
    | normal => cases h1; exact ⟨_, φ', tm', H', rfl, h2, h3, h4⟩
    | exit i =>
      cases h1
      simp only [blkK] at h4
      simp only [Exit.inBlock]
      split
      · rename_i hi
        rw [if_pos hi] at h4
        exact ⟨_, φ', tm', H', rfl, h2, h3, h4⟩
      · rename_i hi
        rw [if_neg hi] at h4
        exact ⟨_, φ', tm', H', rfl, h2, h3, h4⟩
    | ret => cases h1; exact ⟨_, φ', tm', H', rfl, h2, h3, h4⟩
    | _ => cases h1
  | .loop x, φ, tm, H, a, w, k, hB, hs, h => by
    simp only [codeB] at hB
    simp only [evalCode] at h
    have rounds : ∀ (m : Nat) (φ' : Phi) (tm : Tm) (H : Heap) (a : Act) (w : World), PLe φ φ' → St w0 φ' tm H nt a w → iterC nt (fun tm H k => evalCode E.ti (prims E cal β) od nt n x tm H k) k m tm H = some r →
        Code.rounds P x (Post w0 φ nt k r) m a w := by
      intro m
      induction m with
      | zero => intro φ' tm H a w _ _ h; cases h
      | succ m ih =>
        intro φ' tm H a w hp hs h
        simp only [iterC] at h
        refine wp_mono (code_sound hT hsz hc hm x φ' tm H a w _ hB hs h) fun e a w ⟨ex, φ2, tm', H', h1, h2, h3, h4⟩ => ?_
        cases e with
        | normal => cases h1; exact ih φ2 _ H' a w (PLe.trans hp h2) (h3.nrm nt) h4
        | exit i => cases h1; exact ⟨_, φ2, tm', H', rfl, PLe.trans hp h2, h3, h4⟩
        | ret => cases h1; exact ⟨_, φ2, tm', H', rfl, PLe.trans hp h2, h3, h4⟩
        | _ => cases h1
    exact wp_loop_rounds n (rounds n φ (nrm nt tm) H a w (PLe.refl _) (hs.nrm nt) h)
  | .exit i, φ, tm, H, a, w, k, hB, hs, h => wp_exit ⟨_, φ, tm, H, rfl, PLe.refl _, hs, h⟩
  | .ret, φ, tm, H, a, w, k, hB, hs, h => wp_ret ⟨_, φ, tm, H, rfl, PLe.refl _, hs, h⟩
  | .label l, φ, tm, H, a, w, k, hB, hs, h => by simp only [evalCode] at h; cases h
  | .goto l, φ, tm, H, a, w, k, hB, hs, h => by simp only [evalCode] at h; cases h
  | .rangeFunc _ _ _ _, φ, tm, H, a, w, k, hB, hs, h => by simp only [evalCode] at h; cases h

/-- A function's results. -/
theorem results_sound {ti : Nat → Option TI} (hT : TabOk P ti) {E : Env} {cal : Cal} {w0 : World} {φ : Phi} {tm : Tm} {H : Heap} {a : Act} {w : World} (hr : HR w0 φ w H) (htm : TR w0 φ tm a) {r : β} :
    ∀ (rs : List ResultVar) (K : List AV → Option β), resK ti (prims E cal β) tm H rs K = some r →
      ∃ vs us, ((rs.mapM fun
        | .tmp t => pure (a.tmps.getD t undef)
        | .cell c t => do loadVar t (← asAddr (a.tmps.getD c undef)) : Sem (List Value))).run P w = .ok us w ∧ us.length = vs.length ∧ vs.length = rs.length ∧ VRs w0 φ vs (fun j => us[j]?) ∧ K vs = some r
  | [], K, h => ⟨[], [], rfl, rfl, rfl, by rw [VRs]; trivial, h⟩
  | .tmp t :: rs, K, h => by
    simp only [resK] at h
    obtain ⟨vs, us, h1, h2, h3, h4, h5⟩ := results_sound hT hr htm rs _ h
    refine ⟨gt tm t :: vs, a.tmps.getD t undef :: us, ?_, by simp [h2], by simp [h3], ?_, h5⟩
    · simp only [List.mapM_cons, Sem.run_bind, Sem.run_pure, Result.andThen_ok, h1]
    · rw [VRs]
      exact ⟨⟨_, rfl, htm t⟩, by simpa using h4⟩
  | .cell c t :: rs, K, h => by
    simp only [resK] at h
    split at h
    · rename_i i hi
      have hv := htm c
      have hp : ∃ A, a.tmps.getD c undef = .pointer (some A) := by
        simp only [prims, pLoad] at h
        generalize gt tm c = z at h hv
        cases z <;> simp only at h <;> try cases h
        · rw [VR] at hv
          obtain ⟨b, o, sz, _, hv⟩ := hv
          exact ⟨_, hv⟩
        · rw [VR] at hv
          obtain ⟨b, o, hv, _⟩ := hv
          exact ⟨_, hv⟩
      obtain ⟨v, u, g1, g2, g3⟩ := load_sound (hT _ _ hi) hr hv h
      have g3 := g3 w (Below.refl _ _)
      obtain ⟨A, hA⟩ := hp
      obtain ⟨vs, us, h1, h2, h3, h4, h5⟩ := results_sound hT hr htm rs _ g1
      refine ⟨v :: vs, u :: us, ?_, by simp [h2], by simp [h3], ?_, h5⟩
      · rw [hA] at g3
        simp only [Instr.loadAt, Instr.sureAddr, Sem.run_bind, Sem.run_pure, Result.andThen_ok] at g3
        have hAA : ∀ w, (asAddr (.pointer (some A))).run P w = .ok A w := fun _ => rfl
        simp only [List.mapM_cons, hA, hAA, Sem.run_bind, Sem.run_pure, Result.andThen_ok, g3, h1]
      · rw [VRs]
        exact ⟨⟨_, rfl, g2⟩, by simpa using h4⟩
    · cases h

end Go.Proofs.Ytfpmccedangjoaa.Abs
