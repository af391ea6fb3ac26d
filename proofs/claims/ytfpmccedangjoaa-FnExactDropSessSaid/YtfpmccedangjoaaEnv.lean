/- The tables of a program, looked at by the kernel. -/
import Derived.Test.YtfpmccedangjoaaCall
set_option linter.unusedVariables false
set_option linter.unusedSimpArgs false
namespace Go.Proofs.Ytfpmccedangjoaa.Abs
open Go Go.RowKit

variable {P : Program}

/-- Zeroes are told apart. -/
def eqZ : Value → Value → Bool
  | .int k n, .int k' n' => k == k' && n == n'
  | .bool a, .bool b => a == b
  | .string a, .string b => a.data.toList == b.data.toList
  | .slice none 0 0, .slice none 0 0 => true
  | .pointer none, .pointer none => true
  | .nilFunc, .nilFunc => true
  | .nilIface, .nilIface => true
  | _, _ => false

theorem eqZ_eq {a b : Value} (h : eqZ a b = true) : a = b := by
  unfold eqZ at h
  split at h
  all_goals first
    | rfl
    | (simp only [Bool.and_eq_true, beq_iff_eq] at h; obtain ⟨rfl, rfl⟩ := h; rfl)
    | (simp only [beq_iff_eq] at h; subst h; rfl)
    | (simp only [beq_iff_eq] at h; congr 1; apply ByteArray.ext; exact Array.ext' h)
    | cases h

def eqZs : List Value → List Value → Bool
  | [], [] => true
  | x :: xs, y :: ys => eqZ x y && eqZs xs ys
  | _, _ => false
theorem eqZs_eq : ∀ {xs ys : List Value}, eqZs xs ys = true → xs = ys
  | [], [], _ => rfl
  | x :: xs, y :: ys, h => by
    simp only [eqZs, Bool.and_eq_true] at h
    rw [eqZ_eq h.1, eqZs_eq h.2]
  | [], _ :: _, h => by cases h
  | _ :: _, [], h => by cases h

def typeB (P : Program) (t : TypeId) (i : TI) : Bool :=
  (match P.info? t with
    | some inf => inf.size == i.size && inf.bytes == i.bytes && (match inf.zero with | some z => eqZs z.cells.toList i.zero | none => false)
    | none => false) &&
  (match P.underlying t with | some d => descOk i d | none => false) && (i.zero.length == i.size) && (0 < i.size) && (0 < i.bytes) && i.zero.all leafV && i.fields.all (fun q => (P.info? q.2).isSome) && (!i.eqs || (i.isAgg && !P.stoodInHeld t && !P.eqGuardType P.depth t && (P.fieldsOf t).toList.all fun f => f.name != "_"))

theorem typeB_ok {t : TypeId} {i : TI} (h : typeB P t i = true) : TOk P t i := by
  simp only [typeB, Bool.and_eq_true] at h
  obtain ⟨⟨⟨⟨⟨⟨⟨h1, h2⟩, h3⟩, h4⟩, h5⟩, h6⟩, h7⟩, h8⟩ := h
  split at h1
  · rename_i inf hi
    simp only [Bool.and_eq_true] at h1
    obtain ⟨⟨g1, g2⟩, g3⟩ := h1
    split at g3
    · rename_i z hz
      split at h2
      · rename_i d hd
        exact ⟨⟨inf, hi, by simpa using g1, by simpa using g2, z, hz, eqZs_eq g3⟩, ⟨d, hd, h2⟩, by simpa using h3, by simpa using h4, by simpa using h5, fun v hv => List.all_eq_true.1 h6 v hv,
          fun q hq => by have := List.all_eq_true.1 h7 q hq; exact Option.isSome_iff_exists.1 this,
          fun hq => by
            rw [hq] at h8
            simp only [Bool.not_true, Bool.false_or, Bool.and_eq_true, Bool.not_eq_true', List.all_eq_true] at h8
            exact ⟨h8.1.1.1, h8.1.1.2, h8.1.2, fun f hf => by simpa using h8.2 f hf⟩⟩
      · cases h2
    · cases g3
  · cases h1

/-- The table's entries, each with its number. -/
def tabB (P : Program) : Nat → List (Option TI) → Bool
  | _, [] => true
  | t, o :: l => (match o with | some i => typeB P t i && (match i.ik with | some .u8 => i.size == 1 | _ => true) | none => true) && tabB P (t + 1) l

theorem tabB_ok : ∀ (l : List (Option TI)) (s t : Nat) (i : TI), tabB P s l = true → l[t]? = some (some i) → TOk P (s + t) i ∧ (i.ik = some .u8 → i.size = 1)
  | [], s, t, i, _, h => by simp at h
  | o :: l, s, 0, i, hB, h => by
    simp only [List.getElem?_cons_zero, Option.some.injEq] at h
    subst h
    simp only [tabB, Bool.and_eq_true] at hB
    refine ⟨typeB_ok hB.1.1, fun hk => ?_⟩
    have := hB.1.2
    rw [hk] at this
    simpa using this
  | o :: l, s, t + 1, i, hB, h => by
    simp only [tabB, Bool.and_eq_true] at hB
    have := tabB_ok l (s + 1) t i hB.2 (by simpa using h)
    rwa [show s + 1 + t = s + (t + 1) by omega] at this

/-- The functions' bodies. -/
def fnsB (E : Env) : List (Option FnI) → Bool
  | [] => true
  | o :: l => (match o with | some i => codeB E i.ords i.ntmps i.body | none => true) && fnsB E l
theorem fnsB_ok {E : Env} : ∀ {l : List (Option FnI)} {f : Nat} {i : FnI}, fnsB E l = true → l[f]? = some (some i) → codeB E i.ords i.ntmps i.body = true
  | o :: l, 0, i, h, hf => by
    simp only [List.getElem?_cons_zero, Option.some.injEq] at hf
    subst hf
    simp only [fnsB, Bool.and_eq_true] at h
    exact h.1
  | o :: l, f + 1, i, h, hf => by
    simp only [fnsB, Bool.and_eq_true] at h
    exact fnsB_ok h.2 (by simpa using hf)
  | [], f, i, h, hf => by simp at hf

end Go.Proofs.Ytfpmccedangjoaa.Abs
