/-
  No cell of these rows narrows 'for every input' (looked for: loops, veiled, ifaces, maps, wideKeys, modest, calm, conditions, laid).
  DERIVED. THE GIVEN ROWS OF THIS SEAT. 8 by the template 'for every input the law returns true; each argument reads behind the call as it read before'; 0 by the template 'total and deterministic' (their statements: YtgidofkechabbaaTotals.lean).
  GIVEN WITH THE SEED: the statements are not yours to turn. If you find one false, say at which input.
  Laid BY PROGRAM, IN A SANDBOX (cutbox-rows.mjs): the forced cells as the released guide's own fill.sh prints them over the translation 326976bd01d7785e… (all of the seat's roots in one cut). By AI agents, Wed Nov 11 2026. No macro, syntax, notation, axiom, sorry.
-/
import Derived.Test.YtgidofkechabbaaChecked
import GoSem.Claim
import GoSem.ClaimJoined
import GoSem.ClaimMapViews
import Derived.JoinedTies
import Derived.KernelRfl
namespace Go.Proofs.Ytgidofkechabbaa
/- THE CELL 'sum', in the pinned program and in every row, IS THE sha256 OF THE DUMP (.gsa) THAT YtgidofkechabbaaProg.lean LOADS. Nothing in Lean hashes anything: it is a label: what it is worth is what the hold of that sum in a sandbox is worth. -/
noncomputable def Try.pinned : Pinned := { name := "ytgidofkechabbaa", sum := "326976bd01d7785e9466ec1b57dd632bc5848134a455d76de69b5466ed158f26", checked := Try.checked }
namespace Rows
def none {H : Type} : Left H := { results := [], args := [] }

/-- 'laws.FnExactStripeOf': WHATEVER THE INPUT: true; the input reads as it did. -/
def fnExactStripeOfSpec : ChangeSpec := { name := "fnExactStripeOf", fn := fun _ => fun
  | [d] => { results := [.lit (.bool true)], args := [d] }
  | _ => none }
def fnExactStripeOfRow : OpenClaim := { program := "ytgidofkechabbaa", sum := "326976bd01d7785e9466ec1b57dd632bc5848134a455d76de69b5466ed158f26", func := "loop.example/g00480/laws.FnExactStripeOf", spec := "fnExactStripeOf", apart := false }
def FnExactStripeOfSaid : Prop := fnExactStripeOfRow.holds Try.pinned (OpenSpec.ofChange fnExactStripeOfSpec)

/-- ITS FALSE NEIGHBOUR: 'it returns false'. Refute it at one input. -/
def fnExactStripeOfWrong : ChangeSpec := { name := "fnExactStripeOf", fn := fun _ => fun
  | [d] => { results := [.lit (.bool false)], args := [d] }
  | _ => none }
def FnExactStripeOfWrongFalsely : Prop := fnExactStripeOfRow.holds Try.pinned (OpenSpec.ofChange fnExactStripeOfWrong)

/-- 'laws.FnExactPcOk': WHATEVER THE INPUT: true; the input reads as it did. -/
def fnExactPcOkSpec : ChangeSpec := { name := "fnExactPcOk", fn := fun _ => fun
  | [d1, d2] => { results := [.lit (.bool true)], args := [d1, d2] }
  | _ => none }
def fnExactPcOkRow : OpenClaim := { program := "ytgidofkechabbaa", sum := "326976bd01d7785e9466ec1b57dd632bc5848134a455d76de69b5466ed158f26", func := "loop.example/g00480/laws.FnExactPcOk", spec := "fnExactPcOk", apart := false }
def FnExactPcOkSaid : Prop := fnExactPcOkRow.holds Try.pinned (OpenSpec.ofChange fnExactPcOkSpec)

/-- ITS FALSE NEIGHBOUR: 'it returns false'. Refute it at one input. -/
def fnExactPcOkWrong : ChangeSpec := { name := "fnExactPcOk", fn := fun _ => fun
  | [d1, d2] => { results := [.lit (.bool false)], args := [d1, d2] }
  | _ => none }
def FnExactPcOkWrongFalsely : Prop := fnExactPcOkRow.holds Try.pinned (OpenSpec.ofChange fnExactPcOkWrong)

/-- 'laws.FnExactInOk': WHATEVER THE INPUT: true; the input reads as it did. -/
def fnExactInOkSpec : ChangeSpec := { name := "fnExactInOk", fn := fun _ => fun
  | [d] => { results := [.lit (.bool true)], args := [d] }
  | _ => none }
def fnExactInOkRow : OpenClaim := { program := "ytgidofkechabbaa", sum := "326976bd01d7785e9466ec1b57dd632bc5848134a455d76de69b5466ed158f26", func := "loop.example/g00480/laws.FnExactInOk", spec := "fnExactInOk", apart := false }
def FnExactInOkSaid : Prop := fnExactInOkRow.holds Try.pinned (OpenSpec.ofChange fnExactInOkSpec)

/-- ITS FALSE NEIGHBOUR: 'it returns false'. Refute it at one input. -/
def fnExactInOkWrong : ChangeSpec := { name := "fnExactInOk", fn := fun _ => fun
  | [d] => { results := [.lit (.bool false)], args := [d] }
  | _ => none }
def FnExactInOkWrongFalsely : Prop := fnExactInOkRow.holds Try.pinned (OpenSpec.ofChange fnExactInOkWrong)

/-- 'laws.FnExactSameMsg': WHATEVER THE INPUT: true; the input reads as it did. -/
def fnExactSameMsgSpec : ChangeSpec := { name := "fnExactSameMsg", fn := fun _ => fun
  | [d1, d2] => { results := [.lit (.bool true)], args := [d1, d2] }
  | _ => none }
def fnExactSameMsgRow : OpenClaim := { program := "ytgidofkechabbaa", sum := "326976bd01d7785e9466ec1b57dd632bc5848134a455d76de69b5466ed158f26", func := "loop.example/g00480/laws.FnExactSameMsg", spec := "fnExactSameMsg", apart := false }
def FnExactSameMsgSaid : Prop := fnExactSameMsgRow.holds Try.pinned (OpenSpec.ofChange fnExactSameMsgSpec)

/-- ITS FALSE NEIGHBOUR: 'it returns false'. Refute it at one input. -/
def fnExactSameMsgWrong : ChangeSpec := { name := "fnExactSameMsg", fn := fun _ => fun
  | [d1, d2] => { results := [.lit (.bool false)], args := [d1, d2] }
  | _ => none }
def FnExactSameMsgWrongFalsely : Prop := fnExactSameMsgRow.holds Try.pinned (OpenSpec.ofChange fnExactSameMsgWrong)

/-- 'laws.FnNext': WHATEVER THE INPUT: true; the input reads as it did. -/
def fnNextSpec : ChangeSpec := { name := "fnNext", fn := fun _ => fun
  | [d] => { results := [.lit (.bool true)], args := [d] }
  | _ => none }
def fnNextRow : OpenClaim := { program := "ytgidofkechabbaa", sum := "326976bd01d7785e9466ec1b57dd632bc5848134a455d76de69b5466ed158f26", func := "loop.example/g00480/laws.FnNext", spec := "fnNext", apart := false }
def FnNextSaid : Prop := fnNextRow.holds Try.pinned (OpenSpec.ofChange fnNextSpec)

/-- ITS FALSE NEIGHBOUR: 'it returns false'. Refute it at one input. -/
def fnNextWrong : ChangeSpec := { name := "fnNext", fn := fun _ => fun
  | [d] => { results := [.lit (.bool false)], args := [d] }
  | _ => none }
def FnNextWrongFalsely : Prop := fnNextRow.holds Try.pinned (OpenSpec.ofChange fnNextWrong)

/-- 'laws.FnExactEnds': WHATEVER THE INPUT: true; the input reads as it did. -/
def fnExactEndsSpec : ChangeSpec := { name := "fnExactEnds", fn := fun _ => fun
  | [d1, d2] => { results := [.lit (.bool true)], args := [d1, d2] }
  | _ => none }
def fnExactEndsRow : OpenClaim := { program := "ytgidofkechabbaa", sum := "326976bd01d7785e9466ec1b57dd632bc5848134a455d76de69b5466ed158f26", func := "loop.example/g00480/laws.FnExactEnds", spec := "fnExactEnds", unfollowed := true, recurses := true, apart := false }
def FnExactEndsSaid : Prop := fnExactEndsRow.holds Try.pinned (OpenSpec.ofChange fnExactEndsSpec)

/-- ITS FALSE NEIGHBOUR: 'it returns false'. Refute it at one input. -/
def fnExactEndsWrong : ChangeSpec := { name := "fnExactEnds", fn := fun _ => fun
  | [d1, d2] => { results := [.lit (.bool false)], args := [d1, d2] }
  | _ => none }
def FnExactEndsWrongFalsely : Prop := fnExactEndsRow.holds Try.pinned (OpenSpec.ofChange fnExactEndsWrong)

/-- 'laws.FnExactPop': WHATEVER THE INPUT: true; the input reads as it did. -/
def fnExactPopSpec : ChangeSpec := { name := "fnExactPop", fn := fun _ => fun
  | [d] => { results := [.lit (.bool true)], args := [d] }
  | _ => none }
def fnExactPopRow : OpenClaim := { program := "ytgidofkechabbaa", sum := "326976bd01d7785e9466ec1b57dd632bc5848134a455d76de69b5466ed158f26", func := "loop.example/g00480/laws.FnExactPop", spec := "fnExactPop", apart := false }
def FnExactPopSaid : Prop := fnExactPopRow.holds Try.pinned (OpenSpec.ofChange fnExactPopSpec)

/-- ITS FALSE NEIGHBOUR: 'it returns false'. Refute it at one input. -/
def fnExactPopWrong : ChangeSpec := { name := "fnExactPop", fn := fun _ => fun
  | [d] => { results := [.lit (.bool false)], args := [d] }
  | _ => none }
def FnExactPopWrongFalsely : Prop := fnExactPopRow.holds Try.pinned (OpenSpec.ofChange fnExactPopWrong)

/-- 'laws.FnExactMine': WHATEVER THE INPUT: true; the input reads as it did. -/
def fnExactMineSpec : ChangeSpec := { name := "fnExactMine", fn := fun _ => fun
  | [d1, d2, d3] => { results := [.lit (.bool true)], args := [d1, d2, d3] }
  | _ => none }
def fnExactMineRow : OpenClaim := { program := "ytgidofkechabbaa", sum := "326976bd01d7785e9466ec1b57dd632bc5848134a455d76de69b5466ed158f26", func := "loop.example/g00480/laws.FnExactMine", spec := "fnExactMine", apart := false }
def FnExactMineSaid : Prop := fnExactMineRow.holds Try.pinned (OpenSpec.ofChange fnExactMineSpec)

/-- ITS FALSE NEIGHBOUR: 'it returns false'. Refute it at one input. -/
def fnExactMineWrong : ChangeSpec := { name := "fnExactMine", fn := fun _ => fun
  | [d1, d2, d3] => { results := [.lit (.bool false)], args := [d1, d2, d3] }
  | _ => none }
def FnExactMineWrongFalsely : Prop := fnExactMineRow.holds Try.pinned (OpenSpec.ofChange fnExactMineWrong)

/- THE SECOND FORM. 'bulk': how many values and letters a reading holds, each counted each time it is reached (what is shared counts as often as it is met; a slice's spare places count too). A statement '..UptoSaid' is the law's where the arguments, and the package variables that the reading takes, are together of bulk at most 1048576: NARROWER than '..Said'. Prove '..Said' where nothing that the law and all that it calls make is longer than what came in: it says more and counts as full. Else prove '..UptoSaid'. A law counts once. -/
mutual
def uptoBulk {H : Type} : DataW H → Nat
  | .lit (.string bytes) => bytes.length + 1
  | .lit _ => 1
  | .nil => 1
  | .ptr d => uptoBulk d + 1
  | .slice elems spare => uptoBulkAll elems + uptoBulkAll spare + 1
  | .agg parts => uptoBulkAll parts + 1
  | .iface _ d => uptoBulk d + 1
  | .map entries => uptoBulkEntries entries + 1
  | .held _ => 1
def uptoBulkAll {H : Type} : List (DataW H) → Nat
  | [] => 0
  | d :: r => uptoBulk d + uptoBulkAll r
def uptoBulkEntries {H : Type} : List (Lit × DataW H) → Nat
  | [] => 0
  | x :: r => uptoBulkEntry x + uptoBulkEntries r
def uptoBulkEntry {H : Type} : Lit × DataW H → Nat
  | (.string bytes, d) => bytes.length + uptoBulk d + 1
  | (_, d) => uptoBulk d + 1
 end
def uptoSmall : (H : Type) → List (DataW H) → Bool := fun _ ds => decide (uptoBulkAll ds ≤ 1048576)
def OpenSpec.upto (s : _root_.Go.ChangeSpec) : _root_.Go.OpenSpec := { _root_.Go.OpenSpec.ofChange s with cond := some uptoSmall }

/-- 'laws.FnExactStripeOf', WHERE WHAT IT READS IS OF BULK AT MOST 1048576: true; the input reads as it did. -/
def fnExactStripeOfUptoRow : OpenClaim := { program := "ytgidofkechabbaa", sum := "326976bd01d7785e9466ec1b57dd632bc5848134a455d76de69b5466ed158f26", func := "loop.example/g00480/laws.FnExactStripeOf", spec := "fnExactStripeOf", apart := false, narrowed := true }
def FnExactStripeOfUptoSaid : Prop := fnExactStripeOfUptoRow.holds Try.pinned (OpenSpec.upto fnExactStripeOfSpec)

/-- 'laws.FnExactPcOk', WHERE WHAT IT READS IS OF BULK AT MOST 1048576: true; the input reads as it did. -/
def fnExactPcOkUptoRow : OpenClaim := { program := "ytgidofkechabbaa", sum := "326976bd01d7785e9466ec1b57dd632bc5848134a455d76de69b5466ed158f26", func := "loop.example/g00480/laws.FnExactPcOk", spec := "fnExactPcOk", apart := false, narrowed := true }
def FnExactPcOkUptoSaid : Prop := fnExactPcOkUptoRow.holds Try.pinned (OpenSpec.upto fnExactPcOkSpec)

/-- 'laws.FnExactInOk', WHERE WHAT IT READS IS OF BULK AT MOST 1048576: true; the input reads as it did. -/
def fnExactInOkUptoRow : OpenClaim := { program := "ytgidofkechabbaa", sum := "326976bd01d7785e9466ec1b57dd632bc5848134a455d76de69b5466ed158f26", func := "loop.example/g00480/laws.FnExactInOk", spec := "fnExactInOk", apart := false, narrowed := true }
def FnExactInOkUptoSaid : Prop := fnExactInOkUptoRow.holds Try.pinned (OpenSpec.upto fnExactInOkSpec)

/-- 'laws.FnExactSameMsg', WHERE WHAT IT READS IS OF BULK AT MOST 1048576: true; the input reads as it did. -/
def fnExactSameMsgUptoRow : OpenClaim := { program := "ytgidofkechabbaa", sum := "326976bd01d7785e9466ec1b57dd632bc5848134a455d76de69b5466ed158f26", func := "loop.example/g00480/laws.FnExactSameMsg", spec := "fnExactSameMsg", apart := false, narrowed := true }
def FnExactSameMsgUptoSaid : Prop := fnExactSameMsgUptoRow.holds Try.pinned (OpenSpec.upto fnExactSameMsgSpec)

/-- 'laws.FnNext', WHERE WHAT IT READS IS OF BULK AT MOST 1048576: true; the input reads as it did. -/
def fnNextUptoRow : OpenClaim := { program := "ytgidofkechabbaa", sum := "326976bd01d7785e9466ec1b57dd632bc5848134a455d76de69b5466ed158f26", func := "loop.example/g00480/laws.FnNext", spec := "fnNext", apart := false, narrowed := true }
def FnNextUptoSaid : Prop := fnNextUptoRow.holds Try.pinned (OpenSpec.upto fnNextSpec)

/-- 'laws.FnExactEnds', WHERE WHAT IT READS IS OF BULK AT MOST 1048576: true; the input reads as it did. -/
def fnExactEndsUptoRow : OpenClaim := { program := "ytgidofkechabbaa", sum := "326976bd01d7785e9466ec1b57dd632bc5848134a455d76de69b5466ed158f26", func := "loop.example/g00480/laws.FnExactEnds", spec := "fnExactEnds", unfollowed := true, recurses := true, apart := false, narrowed := true }
def FnExactEndsUptoSaid : Prop := fnExactEndsUptoRow.holds Try.pinned (OpenSpec.upto fnExactEndsSpec)

/-- 'laws.FnExactPop', WHERE WHAT IT READS IS OF BULK AT MOST 1048576: true; the input reads as it did. -/
def fnExactPopUptoRow : OpenClaim := { program := "ytgidofkechabbaa", sum := "326976bd01d7785e9466ec1b57dd632bc5848134a455d76de69b5466ed158f26", func := "loop.example/g00480/laws.FnExactPop", spec := "fnExactPop", apart := false, narrowed := true }
def FnExactPopUptoSaid : Prop := fnExactPopUptoRow.holds Try.pinned (OpenSpec.upto fnExactPopSpec)

/-- 'laws.FnExactMine', WHERE WHAT IT READS IS OF BULK AT MOST 1048576: true; the input reads as it did. -/
def fnExactMineUptoRow : OpenClaim := { program := "ytgidofkechabbaa", sum := "326976bd01d7785e9466ec1b57dd632bc5848134a455d76de69b5466ed158f26", func := "loop.example/g00480/laws.FnExactMine", spec := "fnExactMine", apart := false, narrowed := true }
def FnExactMineUptoSaid : Prop := fnExactMineUptoRow.holds Try.pinned (OpenSpec.upto fnExactMineSpec)

end Rows
end Go.Proofs.Ytgidofkechabbaa
