/-
  No cell of these rows narrows 'for every input' (looked for: loops, veiled, ifaces, maps, wideKeys, modest, calm, conditions, laid).
  DERIVED. THE GIVEN ROWS OF THIS SEAT. 8 by the template 'for every input the law returns true; each argument reads behind the call as it read before'; 0 by the template 'total and deterministic' (their statements: YtnkelipioodhjaaTotals.lean).
  GIVEN WITH THE SEED: the statements are not yours to turn. If you find one false, say at which input.
  Laid BY PROGRAM, IN A SANDBOX (cutbox-rows.mjs): the forced cells as the released guide's own fill.sh prints them over the translation c459817bd8e81868… (all of the seat's roots in one cut). By AI agents, Wed Nov 11 2026. No macro, syntax, notation, axiom, sorry.
-/
import Derived.Test.YtnkelipioodhjaaChecked
import GoSem.Claim
import GoSem.ClaimJoined
import GoSem.ClaimMapViews
import Derived.JoinedTies
import Derived.KernelRfl
namespace Go.Proofs.Ytnkelipioodhjaa
/- THE CELL 'sum', in the pinned program and in every row, IS THE sha256 OF THE DUMP (.gsa) THAT YtnkelipioodhjaaProg.lean LOADS. Nothing in Lean hashes anything: it is a label: what it is worth is what the hold of that sum in a sandbox is worth. -/
noncomputable def Try.pinned : Pinned := { name := "ytnkelipioodhjaa", sum := "c459817bd8e818683de86507fe9dd02f8957fb8d4044b8afb622f0d90250a36e", checked := Try.checked }
namespace Rows
def none {H : Type} : Left H := { results := [], args := [] }

/-- 'laws.FnExactSessAt': WHATEVER THE INPUT: true; the input reads as it did. -/
def fnExactSessAtSpec : ChangeSpec := { name := "fnExactSessAt", fn := fun _ => fun
  | [d1, d2] => { results := [.lit (.bool true)], args := [d1, d2] }
  | _ => none }
def fnExactSessAtRow : OpenClaim := { program := "ytnkelipioodhjaa", sum := "c459817bd8e818683de86507fe9dd02f8957fb8d4044b8afb622f0d90250a36e", func := "loop.example/g00480/laws.FnExactSessAt", spec := "fnExactSessAt", unfollowed := true, recurses := true, apart := false }
def FnExactSessAtSaid : Prop := fnExactSessAtRow.holds Try.pinned (OpenSpec.ofChange fnExactSessAtSpec)

/-- ITS FALSE NEIGHBOUR: 'it returns false'. Refute it at one input. -/
def fnExactSessAtWrong : ChangeSpec := { name := "fnExactSessAt", fn := fun _ => fun
  | [d1, d2] => { results := [.lit (.bool false)], args := [d1, d2] }
  | _ => none }
def FnExactSessAtWrongFalsely : Prop := fnExactSessAtRow.holds Try.pinned (OpenSpec.ofChange fnExactSessAtWrong)

/-- 'laws.FnExactHasRoom': WHATEVER THE INPUT: true; the input reads as it did. -/
def fnExactHasRoomSpec : ChangeSpec := { name := "fnExactHasRoom", fn := fun _ => fun
  | [d] => { results := [.lit (.bool true)], args := [d] }
  | _ => none }
def fnExactHasRoomRow : OpenClaim := { program := "ytnkelipioodhjaa", sum := "c459817bd8e818683de86507fe9dd02f8957fb8d4044b8afb622f0d90250a36e", func := "loop.example/g00480/laws.FnExactHasRoom", spec := "fnExactHasRoom", apart := false }
def FnExactHasRoomSaid : Prop := fnExactHasRoomRow.holds Try.pinned (OpenSpec.ofChange fnExactHasRoomSpec)

/-- ITS FALSE NEIGHBOUR: 'it returns false'. Refute it at one input. -/
def fnExactHasRoomWrong : ChangeSpec := { name := "fnExactHasRoom", fn := fun _ => fun
  | [d] => { results := [.lit (.bool false)], args := [d] }
  | _ => none }
def FnExactHasRoomWrongFalsely : Prop := fnExactHasRoomRow.holds Try.pinned (OpenSpec.ofChange fnExactHasRoomWrong)

/-- 'laws.FnExactHoldsRoot': WHATEVER THE INPUT: true; the input reads as it did. -/
def fnExactHoldsRootSpec : ChangeSpec := { name := "fnExactHoldsRoot", fn := fun _ => fun
  | [d] => { results := [.lit (.bool true)], args := [d] }
  | _ => none }
def fnExactHoldsRootRow : OpenClaim := { program := "ytnkelipioodhjaa", sum := "c459817bd8e818683de86507fe9dd02f8957fb8d4044b8afb622f0d90250a36e", func := "loop.example/g00480/laws.FnExactHoldsRoot", spec := "fnExactHoldsRoot", apart := false }
def FnExactHoldsRootSaid : Prop := fnExactHoldsRootRow.holds Try.pinned (OpenSpec.ofChange fnExactHoldsRootSpec)

/-- ITS FALSE NEIGHBOUR: 'it returns false'. Refute it at one input. -/
def fnExactHoldsRootWrong : ChangeSpec := { name := "fnExactHoldsRoot", fn := fun _ => fun
  | [d] => { results := [.lit (.bool false)], args := [d] }
  | _ => none }
def FnExactHoldsRootWrongFalsely : Prop := fnExactHoldsRootRow.holds Try.pinned (OpenSpec.ofChange fnExactHoldsRootWrong)

/-- 'laws.FnExactAhead': WHATEVER THE INPUT: true; the input reads as it did. -/
def fnExactAheadSpec : ChangeSpec := { name := "fnExactAhead", fn := fun _ => fun
  | [d1, d2] => { results := [.lit (.bool true)], args := [d1, d2] }
  | _ => none }
def fnExactAheadRow : OpenClaim := { program := "ytnkelipioodhjaa", sum := "c459817bd8e818683de86507fe9dd02f8957fb8d4044b8afb622f0d90250a36e", func := "loop.example/g00480/laws.FnExactAhead", spec := "fnExactAhead", apart := false }
def FnExactAheadSaid : Prop := fnExactAheadRow.holds Try.pinned (OpenSpec.ofChange fnExactAheadSpec)

/-- ITS FALSE NEIGHBOUR: 'it returns false'. Refute it at one input. -/
def fnExactAheadWrong : ChangeSpec := { name := "fnExactAhead", fn := fun _ => fun
  | [d1, d2] => { results := [.lit (.bool false)], args := [d1, d2] }
  | _ => none }
def FnExactAheadWrongFalsely : Prop := fnExactAheadRow.holds Try.pinned (OpenSpec.ofChange fnExactAheadWrong)

/-- 'laws.FnExactHoldsStripe': WHATEVER THE INPUT: true; the input reads as it did. -/
def fnExactHoldsStripeSpec : ChangeSpec := { name := "fnExactHoldsStripe", fn := fun _ => fun
  | [d] => { results := [.lit (.bool true)], args := [d] }
  | _ => none }
def fnExactHoldsStripeRow : OpenClaim := { program := "ytnkelipioodhjaa", sum := "c459817bd8e818683de86507fe9dd02f8957fb8d4044b8afb622f0d90250a36e", func := "loop.example/g00480/laws.FnExactHoldsStripe", spec := "fnExactHoldsStripe", apart := false }
def FnExactHoldsStripeSaid : Prop := fnExactHoldsStripeRow.holds Try.pinned (OpenSpec.ofChange fnExactHoldsStripeSpec)

/-- ITS FALSE NEIGHBOUR: 'it returns false'. Refute it at one input. -/
def fnExactHoldsStripeWrong : ChangeSpec := { name := "fnExactHoldsStripe", fn := fun _ => fun
  | [d] => { results := [.lit (.bool false)], args := [d] }
  | _ => none }
def FnExactHoldsStripeWrongFalsely : Prop := fnExactHoldsStripeRow.holds Try.pinned (OpenSpec.ofChange fnExactHoldsStripeWrong)

/-- 'laws.FnExactLock': WHATEVER THE INPUT: true; the input reads as it did. -/
def fnExactLockSpec : ChangeSpec := { name := "fnExactLock", fn := fun _ => fun
  | [d1, d2] => { results := [.lit (.bool true)], args := [d1, d2] }
  | _ => none }
def fnExactLockRow : OpenClaim := { program := "ytnkelipioodhjaa", sum := "c459817bd8e818683de86507fe9dd02f8957fb8d4044b8afb622f0d90250a36e", func := "loop.example/g00480/laws.FnExactLock", spec := "fnExactLock", apart := false }
def FnExactLockSaid : Prop := fnExactLockRow.holds Try.pinned (OpenSpec.ofChange fnExactLockSpec)

/-- ITS FALSE NEIGHBOUR: 'it returns false'. Refute it at one input. -/
def fnExactLockWrong : ChangeSpec := { name := "fnExactLock", fn := fun _ => fun
  | [d1, d2] => { results := [.lit (.bool false)], args := [d1, d2] }
  | _ => none }
def FnExactLockWrongFalsely : Prop := fnExactLockRow.holds Try.pinned (OpenSpec.ofChange fnExactLockWrong)

/-- 'laws.FnExactUnlock': WHATEVER THE INPUT: true; the input reads as it did. -/
def fnExactUnlockSpec : ChangeSpec := { name := "fnExactUnlock", fn := fun _ => fun
  | [d1, d2] => { results := [.lit (.bool true)], args := [d1, d2] }
  | _ => none }
def fnExactUnlockRow : OpenClaim := { program := "ytnkelipioodhjaa", sum := "c459817bd8e818683de86507fe9dd02f8957fb8d4044b8afb622f0d90250a36e", func := "loop.example/g00480/laws.FnExactUnlock", spec := "fnExactUnlock", apart := false }
def FnExactUnlockSaid : Prop := fnExactUnlockRow.holds Try.pinned (OpenSpec.ofChange fnExactUnlockSpec)

/-- ITS FALSE NEIGHBOUR: 'it returns false'. Refute it at one input. -/
def fnExactUnlockWrong : ChangeSpec := { name := "fnExactUnlock", fn := fun _ => fun
  | [d1, d2] => { results := [.lit (.bool false)], args := [d1, d2] }
  | _ => none }
def FnExactUnlockWrongFalsely : Prop := fnExactUnlockRow.holds Try.pinned (OpenSpec.ofChange fnExactUnlockWrong)

/-- 'laws.FnExactSameDeed': WHATEVER THE INPUT: true; the input reads as it did. -/
def fnExactSameDeedSpec : ChangeSpec := { name := "fnExactSameDeed", fn := fun _ => fun
  | [d1, d2] => { results := [.lit (.bool true)], args := [d1, d2] }
  | _ => none }
def fnExactSameDeedRow : OpenClaim := { program := "ytnkelipioodhjaa", sum := "c459817bd8e818683de86507fe9dd02f8957fb8d4044b8afb622f0d90250a36e", func := "loop.example/g00480/laws.FnExactSameDeed", spec := "fnExactSameDeed", unfollowed := true, recurses := true, apart := false }
def FnExactSameDeedSaid : Prop := fnExactSameDeedRow.holds Try.pinned (OpenSpec.ofChange fnExactSameDeedSpec)

/-- ITS FALSE NEIGHBOUR: 'it returns false'. Refute it at one input. -/
def fnExactSameDeedWrong : ChangeSpec := { name := "fnExactSameDeed", fn := fun _ => fun
  | [d1, d2] => { results := [.lit (.bool false)], args := [d1, d2] }
  | _ => none }
def FnExactSameDeedWrongFalsely : Prop := fnExactSameDeedRow.holds Try.pinned (OpenSpec.ofChange fnExactSameDeedWrong)

/- THE SECOND FORM. 'bulk': how many values and letters a reading holds, each counted each time it is reached (what is shared counts as often as it is met; a slice's spare places count too). A statement '..UptoSaid' is the law's where the arguments, and the package variables that the reading takes, are together of bulk at most 1048576: NARROWER than '..Said'. Prove '..Said' where nothing that the law and all that it calls make is longer than what came in: it says more and counts as full. Else prove '..UptoSaid'. A law counts once. -/
mutual
def uptoBulk {H : Type} : DataW H → Nat
  | .lit (.string bytes) => bytes.length + 1
  | .lit _ => 1
  | .nil => 1
  | .ptr d => uptoBulk d + 1
  | .slice elems spare => uptoBulkAll elems + uptoBulkAll spare + 1
  | .agg parts => uptoBulkAll parts + 1
  | .iface _ d => uptoBulk d + 1
  | .map entries => uptoBulkEntries entries + 1
  | .held _ => 1
def uptoBulkAll {H : Type} : List (DataW H) → Nat
  | [] => 0
  | d :: r => uptoBulk d + uptoBulkAll r
def uptoBulkEntries {H : Type} : List (Lit × DataW H) → Nat
  | [] => 0
  | x :: r => uptoBulkEntry x + uptoBulkEntries r
def uptoBulkEntry {H : Type} : Lit × DataW H → Nat
  | (.string bytes, d) => bytes.length + uptoBulk d + 1
  | (_, d) => uptoBulk d + 1
 end
def uptoSmall : (H : Type) → List (DataW H) → Bool := fun _ ds => decide (uptoBulkAll ds ≤ 1048576)
def OpenSpec.upto (s : _root_.Go.ChangeSpec) : _root_.Go.OpenSpec := { _root_.Go.OpenSpec.ofChange s with cond := some uptoSmall }

/-- 'laws.FnExactSessAt', WHERE WHAT IT READS IS OF BULK AT MOST 1048576: true; the input reads as it did. -/
def fnExactSessAtUptoRow : OpenClaim := { program := "ytnkelipioodhjaa", sum := "c459817bd8e818683de86507fe9dd02f8957fb8d4044b8afb622f0d90250a36e", func := "loop.example/g00480/laws.FnExactSessAt", spec := "fnExactSessAt", unfollowed := true, recurses := true, apart := false, narrowed := true }
def FnExactSessAtUptoSaid : Prop := fnExactSessAtUptoRow.holds Try.pinned (OpenSpec.upto fnExactSessAtSpec)

/-- 'laws.FnExactHasRoom', WHERE WHAT IT READS IS OF BULK AT MOST 1048576: true; the input reads as it did. -/
def fnExactHasRoomUptoRow : OpenClaim := { program := "ytnkelipioodhjaa", sum := "c459817bd8e818683de86507fe9dd02f8957fb8d4044b8afb622f0d90250a36e", func := "loop.example/g00480/laws.FnExactHasRoom", spec := "fnExactHasRoom", apart := false, narrowed := true }
def FnExactHasRoomUptoSaid : Prop := fnExactHasRoomUptoRow.holds Try.pinned (OpenSpec.upto fnExactHasRoomSpec)

/-- 'laws.FnExactHoldsRoot', WHERE WHAT IT READS IS OF BULK AT MOST 1048576: true; the input reads as it did. -/
def fnExactHoldsRootUptoRow : OpenClaim := { program := "ytnkelipioodhjaa", sum := "c459817bd8e818683de86507fe9dd02f8957fb8d4044b8afb622f0d90250a36e", func := "loop.example/g00480/laws.FnExactHoldsRoot", spec := "fnExactHoldsRoot", apart := false, narrowed := true }
def FnExactHoldsRootUptoSaid : Prop := fnExactHoldsRootUptoRow.holds Try.pinned (OpenSpec.upto fnExactHoldsRootSpec)

/-- 'laws.FnExactAhead', WHERE WHAT IT READS IS OF BULK AT MOST 1048576: true; the input reads as it did. -/
def fnExactAheadUptoRow : OpenClaim := { program := "ytnkelipioodhjaa", sum := "c459817bd8e818683de86507fe9dd02f8957fb8d4044b8afb622f0d90250a36e", func := "loop.example/g00480/laws.FnExactAhead", spec := "fnExactAhead", apart := false, narrowed := true }
def FnExactAheadUptoSaid : Prop := fnExactAheadUptoRow.holds Try.pinned (OpenSpec.upto fnExactAheadSpec)

/-- 'laws.FnExactHoldsStripe', WHERE WHAT IT READS IS OF BULK AT MOST 1048576: true; the input reads as it did. -/
def fnExactHoldsStripeUptoRow : OpenClaim := { program := "ytnkelipioodhjaa", sum := "c459817bd8e818683de86507fe9dd02f8957fb8d4044b8afb622f0d90250a36e", func := "loop.example/g00480/laws.FnExactHoldsStripe", spec := "fnExactHoldsStripe", apart := false, narrowed := true }
def FnExactHoldsStripeUptoSaid : Prop := fnExactHoldsStripeUptoRow.holds Try.pinned (OpenSpec.upto fnExactHoldsStripeSpec)

/-- 'laws.FnExactLock', WHERE WHAT IT READS IS OF BULK AT MOST 1048576: true; the input reads as it did. -/
def fnExactLockUptoRow : OpenClaim := { program := "ytnkelipioodhjaa", sum := "c459817bd8e818683de86507fe9dd02f8957fb8d4044b8afb622f0d90250a36e", func := "loop.example/g00480/laws.FnExactLock", spec := "fnExactLock", apart := false, narrowed := true }
def FnExactLockUptoSaid : Prop := fnExactLockUptoRow.holds Try.pinned (OpenSpec.upto fnExactLockSpec)

/-- 'laws.FnExactUnlock', WHERE WHAT IT READS IS OF BULK AT MOST 1048576: true; the input reads as it did. -/
def fnExactUnlockUptoRow : OpenClaim := { program := "ytnkelipioodhjaa", sum := "c459817bd8e818683de86507fe9dd02f8957fb8d4044b8afb622f0d90250a36e", func := "loop.example/g00480/laws.FnExactUnlock", spec := "fnExactUnlock", apart := false, narrowed := true }
def FnExactUnlockUptoSaid : Prop := fnExactUnlockUptoRow.holds Try.pinned (OpenSpec.upto fnExactUnlockSpec)

/-- 'laws.FnExactSameDeed', WHERE WHAT IT READS IS OF BULK AT MOST 1048576: true; the input reads as it did. -/
def fnExactSameDeedUptoRow : OpenClaim := { program := "ytnkelipioodhjaa", sum := "c459817bd8e818683de86507fe9dd02f8957fb8d4044b8afb622f0d90250a36e", func := "loop.example/g00480/laws.FnExactSameDeed", spec := "fnExactSameDeed", unfollowed := true, recurses := true, apart := false, narrowed := true }
def FnExactSameDeedUptoSaid : Prop := fnExactSameDeedUptoRow.holds Try.pinned (OpenSpec.upto fnExactSameDeedSpec)

end Rows
end Go.Proofs.Ytnkelipioodhjaa
