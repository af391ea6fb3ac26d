/- Each operation does in memory what it does abstractly: those that leave the memory as it is. -/
import Derived.Test.YtfpmccedangjoaaOps
set_option linter.unusedVariables false
namespace Go.Proofs.Ytfpmccedangjoaa.Abs
open Go Go.RowKit

variable {P : Program} {β : Type}

/-- What an operation that leaves the memory as it is comes to. -/
def Got (w0 : World) (φ : Phi) (k : AV → Option β) (r : β) (res : Value → Prop) : Prop := ∃ v u, k v = some r ∧ VR w0 φ v u ∧ res u

theorem VR_sc (w0 : World) (φ : Phi) (v : Value) : VR w0 φ (.sc v) v := by rw [VR]

theorem iadr_sound {t : TypeId} {i j : TI} (ht : TOk P t i) (hs : i.sl = true) (hj : TOk P i.elem j) {w0 : World} {φ : Phi} {w : World} {x y : AV} {u v : Value} (hx : VR w0 φ x u) (hy : VR w0 φ y v) {k : AV → Option β} {r : β}
    (h : pIadr j.size x y k = some r) : Got w0 φ k r fun uv => ∀ w, (Instr.indexAt t u v).run P w = .ok uv w := by
  obtain ⟨n, hn, h⟩ := Option.bind_eq_some_iff.1 h
  obtain ⟨kd, rfl⟩ := asI_VR hy hn
  have hun := fun w => run_underlying (desc_slice ht hs) w
  have run : ∀ b o len c, 0 ≤ n → n < (len : Nat) → ∀ w, (Instr.indexAt t (.slice (some ⟨b, o, none⟩) len c) (.int kd n)).run P w = .ok (.pointer (some ⟨b, o + n.toNat * j.size, none⟩)) w := by
    intro b o len c h0 h1 w
    simp [Instr.indexAt, asIntOf, hun, hj.rSize, h0, h1, addr_add]
  cases x with
  | ro len cells =>
    simp only at h
    split at h
    · rename_i hc
      split at h
      · rename_i hl
        rw [VR] at hx
        obtain ⟨A, c, rfl, hle, hh⟩ := hx
        rcases hh with rfl | ⟨b, o, rfl, hb, hcs⟩
        · simp at hl
        · refine ⟨_, _, h, ?_, run b o len c hc.1 hc.2⟩
          rw [VR]
          refine ⟨b, _, rfl, hb, ?_⟩
          simpa only [Nat.add_assoc] using VRs_drop hcs (n.toNat * j.size)
      · cases h
    · cases h
  | sl id off len z =>
    simp only at h
    split at h
    · rename_i hz
      split at h
      · rename_i hc
        rw [VR] at hx
        rcases hx with ⟨_, _, rfl, _, _⟩ | ⟨b, o, sz, hp, ⟨rfl, _⟩ | ⟨c, hle, rfl, hcap⟩⟩
        · omega
        · omega
        · refine ⟨_, _, h, ?_, run b (o + off) len c hc.1 hc.2⟩
          rw [VR]
          exact ⟨b, o, sz, hp, by rw [Nat.add_assoc]⟩
      · cases h
    · cases h
  | _ => cases h

theorem idx_sound (t : TypeId) {i : TI} (ht : TOk P t i) (hs : i.isStr = true) {w0 : World} {φ : Phi} {w : World} {x y : AV} {u v : Value} (hx : VR w0 φ x u) (hy : VR w0 φ y v) {k : AV → Option β} {r : β}
    (h : pIdx x y k = some r) : Got w0 φ k r fun uv => ∀ w, (Instr.index t u v).run P w = .ok uv w := by
  obtain ⟨n, hn, h⟩ := Option.bind_eq_some_iff.1 h
  obtain ⟨s, hs', h⟩ := Option.bind_eq_some_iff.1 h
  obtain ⟨kd, rfl⟩ := asI_VR hy hn
  have := asS_VR hx hs'
  subst this
  split at h
  · rename_i hc
    refine ⟨_, _, h, VR_sc _ _ _, fun w => ?_⟩
    have hun := fun w => run_underlying (desc_str ht hs) w
    have e : s[n.toNat]? = some (s[n.toNat]'hc.2) := by simp [hc.2]
    simp [Instr.index, asIntOf, hun, hc.1, e]
  · cases h

theorem len_lenA {x : AV} {k : AV → Option β} {r : β} (h : pLen x k = some r) : ∃ n, lenA x = some n ∧ asS x = none ∧ k (.sc (.int .i64 (n : Int))) = some r := by
  cases x <;> simp only [pLen] at h <;> try cases h
  case nl => exact ⟨0, rfl, rfl, h⟩
  case ro n c => exact ⟨_, rfl, rfl, h⟩
  case sl a b c d => exact ⟨_, rfl, rfl, h⟩

theorem lenA_VR {w0 : World} {φ : Phi} {x : AV} {u : Value} (h : VR w0 φ x u) {n : Nat} (hn : lenA x = some n) : (∃ s, u = .string s ∧ s.size = n ∧ x = .sc (.string s)) ∨ ∃ A c, u = .slice A n c ∧ n ≤ c := by
  cases x <;> simp only [lenA] at hn <;> try cases hn
  · rename_i v
    cases v <;> simp only at hn <;> try cases hn
    rw [VR] at h
    subst h
    exact .inl ⟨_, rfl, rfl, rfl⟩
  · rw [VR] at h
    obtain ⟨A, h⟩ := h
    exact .inr ⟨_, _, h, Nat.le_refl _⟩
  · rw [VR] at h
    obtain ⟨A, c, h1, h2, _⟩ := h
    exact .inr ⟨A, c, h1, h2⟩
  · rw [VR] at h
    rcases h with ⟨_, _, h1, A, h2⟩ | ⟨b, o, sz, _, ⟨h1, A, h2⟩ | ⟨c, h1, h2, _⟩⟩
    · subst h1; exact .inr ⟨_, _, h2, Nat.le_refl _⟩
    · subst h1; exact .inr ⟨_, _, h2, Nat.le_refl _⟩
    · exact .inr ⟨_, _, h2, h1⟩

theorem len_sound {t : TypeId} {i : TI} (ht : TOk P t i) (hs : i.sl = true) {w0 : World} {φ : Phi} {w : World} {x : AV} {u : Value} (hx : VR w0 φ x u) {k : AV → Option β} {r : β} (ty : TypeId)
    (h : pLen x k = some r) : Got w0 φ k r fun uv => ∀ w, (Builtin.len_ #[t] ty #[u]).run P w = .ok uv w := by
  obtain ⟨n, hn, hno, hk'⟩ := len_lenA h
  refine ⟨_, .int .i64 n, hk', VR_sc _ _ _, fun w => ?_⟩
  rcases lenA_VR hx hn with ⟨s, rfl, hsz, rfl⟩ | ⟨A, c, rfl, hle⟩
  · cases hno
  · have hun := fun w => run_underlying (desc_slice ht hs) w
    simp [Builtin.len_, hun, goInt]
theorem lenS_sound {t : TypeId} {i : TI} (ht : TOk P t i) (hs : i.isStr = true) {w0 : World} {φ : Phi} {w : World} {x : AV} {u : Value} (hx : VR w0 φ x u) {k : AV → Option β} {r : β} (ty : TypeId)
    (h : pLenS x k = some r) : Got w0 φ k r fun uv => ∀ w, (Builtin.len_ #[t] ty #[u]).run P w = .ok uv w := by
  obtain ⟨s, hs', h⟩ := Option.bind_eq_some_iff.1 h
  have := asS_VR hx hs'
  subst this
  have hun := fun w => run_underlying (desc_str ht hs) w
  exact ⟨_, _, h, VR_sc _ _ _, fun w => by simp [Builtin.len_, hun, goInt]⟩

theorem bound_VR {w0 : World} {φ : Phi} {tm : Tm} {a : Act} (ht : TR w0 φ tm a) {x : Option Operand} {d n : Int} (h : bound (x.map (ev tm)) d = some n) : (x = none ∧ n = d) ∨ ∃ o kd, x = some o ∧ a.eval o = .int kd n := by
  cases x with
  | none => exact .inl ⟨rfl, by simpa [bound] using h.symm⟩
  | some o =>
    obtain ⟨kd, hk⟩ := asI_VR (ev_VR ht o) (by simpa [bound] using h)
    exact .inr ⟨o, kd, rfl, hk⟩

theorem run_bound {kd : IntKind} {n : Int} {c : Nat} {code : BoundsCode} (w : World) (h0 : 0 ≤ n) (h1 : n ≤ c) : (Instr.sliceBound (.int kd n) c code).run P w = .ok n.toNat w := by
  simp [Instr.sliceBound, asIntOf, h0, h1]

/-- The bounds of a cut. -/
theorem run_bounds {w0 : World} {φ : Phi} {tm : Tm} {a : Act} (ht : TR w0 φ tm a) {lo hi : Option Operand} {l h : Int} {len cap : Nat} (hl : bound (lo.map (ev tm)) 0 = some l) (hh : bound (hi.map (ev tm)) len = some h)
    (h0 : 0 ≤ l) (h1 : l ≤ h) (h2 : h ≤ len) (h3 : len ≤ cap) (b : Bool) (w : World) : (Instr.sliceBounds b len cap (lo.map a.eval) (hi.map a.eval) none).run P w = .ok (l.toNat, h.toNat, cap) w := by
  rcases bound_VR ht hl with ⟨rfl, rfl⟩ | ⟨o, kd, rfl, e1⟩ <;> rcases bound_VR ht hh with ⟨rfl, rfl⟩ | ⟨o', kd', rfl, e2⟩
  · simp [Instr.sliceBounds]
  · have := run_bound (P := P) (kd := kd') (n := h) (c := cap) (code := if b then .sliceAcap else .sliceAlen) w (by omega) (by omega)
    simp [Instr.sliceBounds, e2, this]
  · have := run_bound (P := P) (kd := kd) (n := l) (c := len) (code := .sliceB) w (by omega) (by omega)
    simp [Instr.sliceBounds, e1, this]
  · have r1 := run_bound (P := P) (kd := kd') (n := h) (c := cap) (code := if b then .sliceAcap else .sliceAlen) w (by omega) (by omega)
    have r2 := run_bound (P := P) (kd := kd) (n := l) (c := h.toNat) (code := .sliceB) w (by omega) (by omega)
    simp [Instr.sliceBounds, e1, e2, r1, r2]

theorem sliceS_sound {t : TypeId} {i : TI} (ht : TOk P t i) (hs : i.isStr = true) {w0 : World} {φ : Phi} {w : World} {tm : Tm} {a : Act} (htm : TR w0 φ tm a) {x : AV} {u : Value} (hx : VR w0 φ x u) {lo hi : Option Operand} {k : AV → Option β} {r : β}
    (h : pSliceS x (lo.map (ev tm)) (hi.map (ev tm)) k = some r) : Got w0 φ k r fun uv => ∀ w, (Instr.sliceAt t u (lo.map a.eval) (hi.map a.eval) none).run P w = .ok uv w := by
  obtain ⟨s, hs', h⟩ := Option.bind_eq_some_iff.1 h
  obtain ⟨l, hl, h⟩ := Option.bind_eq_some_iff.1 h
  obtain ⟨hh, hhi, h⟩ := Option.bind_eq_some_iff.1 h
  split at h
  · rename_i hc
    have := asS_VR hx hs'
    subst this
    have hun := fun w => run_underlying (desc_str ht hs) w
    have rb := run_bounds (P := P) htm hl hhi hc.1 hc.2.1 hc.2.2 (Nat.le_refl _) false
    refine ⟨_, _, h, VR_sc _ _ _, fun w => ?_⟩
    simp [Instr.sliceAt, Instr.slice, hun, rb]
  · cases h

theorem slice_sound {t : TypeId} {i j : TI} (ht : TOk P t i) (hs : i.sl = true) (hj : TOk P i.elem j) {w0 : World} {φ : Phi} {w : World} {tm : Tm} {a : Act} (htm : TR w0 φ tm a) {x : AV} {u : Value} (hx : VR w0 φ x u) {lo hi : Option Operand} {k : AV → Option β} {r : β}
    (h : pSlice j.size x (lo.map (ev tm)) (hi.map (ev tm)) k = some r) : Got w0 φ k r fun uv => ∀ w, (Instr.sliceAt t u (lo.map a.eval) (hi.map a.eval) none).run P w = .ok uv w := by
  simp only [pSlice, Option.bind_eq_some_iff] at h
  obtain ⟨n, hn, l, hl, hh, hhi, h⟩ := h
  split at h
  case isFalse => cases h
  rename_i hc
  have hun := fun w => run_underlying (desc_slice ht hs) w
  have run : ∀ A c, n ≤ c → ∀ w, (Instr.sliceAt t (.slice A n c) (lo.map a.eval) (hi.map a.eval) none).run P w = .ok (.slice (if c = l.toNat then A else A.map (·.add (l.toNat * j.size))) (hh.toNat - l.toNat) (c - l.toNat)) w := by
    intro A c hle w
    have rb := run_bounds (P := P) htm hl hhi hc.1 hc.2.1 hc.2.2 hle true w
    simp [Instr.sliceAt, Instr.slice, hun, rb, hj.rSize]
  have e1 : (hh - l).toNat = hh.toNat - l.toNat := by omega
  cases x with
  | nl =>
    simp only at h
    rw [VR] at hx
    obtain ⟨A, rfl⟩ := hx
    simp only [lenA, Option.some.injEq] at hn
    subst hn
    refine ⟨.nl, _, h, ?_, run A 0 (Nat.le_refl _)⟩
    rw [VR]
    have : hh.toNat = 0 := by omega
    exact ⟨_, by simp [this]; rfl⟩
  | ro m cells =>
    simp only at h
    simp only [lenA, Option.some.injEq] at hn
    subst hn
    rw [VR] at hx
    obtain ⟨A, c, rfl, hle, hcs⟩ := hx
    refine ⟨_, _, h, ?_, run A c hle⟩
    rw [VR]
    refine ⟨_, _, by rw [e1], by omega, ?_⟩
    by_cases hz : hh.toNat - l.toNat = 0
    · left
      rw [e1, hz]
      simp
    · rcases hcs with rfl | ⟨b, o, rfl, hb, hcs⟩
      · left; simp
      · right
        refine ⟨b, o + l.toNat * j.size, ?_, hb, ?_⟩
        · rw [if_neg (by omega)]
          simp [addr_add]
        · simpa only [Nat.add_assoc] using VRs_take (VRs_drop hcs (l.toNat * j.size)) ((hh - l).toNat * j.size)
  | sl id off m z =>
    simp only at h
    simp only [lenA, Option.some.injEq] at hn
    subst hn
    split at h
    case isFalse => cases h
    rename_i hz
    rw [VR] at hx
    rcases hx with ⟨h1, rfl, rfl, A, rfl⟩ | ⟨b, o, sz, hp, ⟨rfl, A, rfl⟩ | ⟨c, hle, rfl, hcap⟩⟩
    · refine ⟨_, _, h, ?_, run A 0 (Nat.le_refl _)⟩
      rw [VR]
      have : hh.toNat = 0 := by omega
      have h2 : l.toNat = 0 := by omega
      left
      exact ⟨h1, by simp [h2], by omega, _, by simp [this]; rfl⟩
    · refine ⟨_, _, h, ?_, run A 0 (Nat.le_refl _)⟩
      rw [VR]
      right
      refine ⟨b, o, sz, hp, .inl ⟨by omega, ?_⟩⟩
      have : hh.toNat = 0 := by omega
      exact ⟨_, by simp [this]; rfl⟩
    · refine ⟨_, _, h, ?_, run _ c hle⟩
      rw [VR]
      right
      refine ⟨b, o, sz, hp, ?_⟩
      by_cases hcl : c = l.toNat
      · left
        refine ⟨by omega, some ⟨b, o + off, none⟩, ?_⟩
        rw [if_pos hcl, show hh.toNat - l.toNat = 0 by omega, show c - l.toNat = 0 by omega]
      · right
        refine ⟨c - l.toNat, by omega, ?_, ?_⟩
        · rw [if_neg hcl, e1]
          simp [addr_add, Nat.add_assoc]
        · subst hz
          have : l.toNat * j.size + (c - l.toNat) * j.size = c * j.size := by rw [← Nat.add_mul]; congr 1; omega
          omega
  | _ => cases h

theorem run_binOp {op : BinOp} {t : TypeId} {x y : Operand} {u v : Value} (hu : ∀ cs, u ≠ .agg cs) (hn : u ≠ .nilIface) (w : World) : (eqGuard op t x y u v).run P w = .ok () w := by
  cases op <;> first | rfl | (cases u <;> first | rfl | (exact absurd rfl hn) | (exact absurd rfl (hu _)) | (cases v <;> rfl))

theorem int_sound {op : BinOp} {t : TypeId} {ka kb : IntKind} {a b : Int} {v : Value} (w : World)
    (h : (if isSh op then shI op ka a b else if ka = kb then binI op ka a b else none) = some v) : (Go.binOp op t (.int ka a) (.int kb b)).run P w = .ok v w := by
  split at h
  · rename_i hs
    unfold shI at h
    split at h
    · rename_i hb
      cases op <;> simp only [isSh] at hs <;> simp only at h <;> try cases h
      · simp only [Go.binOp, shift_shl ka kb a b hb.1 hb.2]; rfl
      · simp only [Go.binOp, shift_shr ka kb a b hb.1 hb.2]; rfl
    · cases h
  · rename_i hs
    split at h
    · rename_i hk
      subst hk
      cases op <;> simp only [isSh] at hs <;> simp only [binI] at h
      all_goals first
        | (split at h <;> first | (cases h; done) | (rename_i hz; cases h; simp [Go.binOp, Op.intDiv, hz]))
        | (cases h; done)
        | (cases h; simp [Go.binOp, Op.intArith, Op.intCmp, Op.intBits, Go.bits])
        | (exact absurd rfl hs)
    · cases h

end Go.Proofs.Ytfpmccedangjoaa.Abs
