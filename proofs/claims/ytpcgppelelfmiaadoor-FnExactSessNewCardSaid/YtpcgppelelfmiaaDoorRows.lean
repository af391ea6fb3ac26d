/-
  NARROWER THAN 'FOR EVERY INPUT', by the rows' own cells (each row's printed sentence says how): FnExactMsgOk: laid · FnExactQueueOk: laid · FnExactOutOk: laid · FnExactOutReady: laid · FnExactSessOk: laid · FnExactStripeOk: laid · FnExactPush: laid · FnExactOutPush: laid · FnExactSessNew: laid.
  DERIVED. THE GIVEN ROWS OF THIS SEAT. 9 by the template 'for every input the law returns true; each argument reads behind the call as it read before'; 0 by the template 'total and deterministic' (their statements: YtpcgppelelfmiaaDoorTotals.lean).
  GIVEN WITH THE SEED: the statements are not yours to turn. If you find one false, say at which input.
  Laid BY PROGRAM, IN A SANDBOX (cutbox-rows.mjs): the forced cells as the released guide's own fill.sh prints them over the translation a2d56abfb7c84eb8… (all of the seat's roots in one cut). By AI agents, Wed Nov 11 2026. No macro, syntax, notation, axiom, sorry.
-/
import Derived.Test.YtpcgppelelfmiaaDoorChecked
import GoSem.PinnedTables
import GoSem.Claim
import GoSem.ClaimJoined
import GoSem.ClaimMapViews
import Derived.JoinedTies
import Derived.KernelRfl
namespace Go.Proofs.YtpcgppelelfmiaaDoor
/- THE CELL 'sum', in the pinned program and in every row, IS THE sha256 OF THE DUMP (.gsa) THAT YtpcgppelelfmiaaDoorProg.lean LOADS. Nothing in Lean hashes anything: it is a label: what it is worth is what the hold of that sum in a sandbox is worth. -/
noncomputable def Tryd.pinned : Pinned := { name := "ytpcgppelelfmiaadoor", sum := "a2d56abfb7c84eb893059884cc3736162509b51928fc452ed4aa27a572432a23", checked := Tryd.checked }
namespace Rows
def none {H : Type} : Left H := { results := [], args := [] }

/- WHAT THE LISTED PACKAGE-LEVEL VARIABLES READ AS WHEN THE CALL BEGINS. Each datum BY PROGRAM (the guide's laid-datum.mjs) off the statement by which the dump's own 'gosem.cut.vars' lays the variable. In a bare row this is a premise. The card (YtpcgppelelfmiaaDoorCards.lean) ties it to the program's text. -/
def laid_unicode_utf8_acceptRanges {H : Type} : DataW H := .agg [.agg [.lit (.int .u8 128), .lit (.int .u8 191)], .agg [.lit (.int .u8 160), .lit (.int .u8 191)], .agg [.lit (.int .u8 128), .lit (.int .u8 159)], .agg [.lit (.int .u8 144), .lit (.int .u8 191)], .agg [.lit (.int .u8 128), .lit (.int .u8 143)], .agg [.lit (.int .u8 0), .lit (.int .u8 0)], .agg [.lit (.int .u8 0), .lit (.int .u8 0)], .agg [.lit (.int .u8 0), .lit (.int .u8 0)], .agg [.lit (.int .u8 0), .lit (.int .u8 0)], .agg [.lit (.int .u8 0), .lit (.int .u8 0)], .agg [.lit (.int .u8 0), .lit (.int .u8 0)], .agg [.lit (.int .u8 0), .lit (.int .u8 0)], .agg [.lit (.int .u8 0), .lit (.int .u8 0)], .agg [.lit (.int .u8 0), .lit (.int .u8 0)], .agg [.lit (.int .u8 0), .lit (.int .u8 0)], .agg [.lit (.int .u8 0), .lit (.int .u8 0)]]
/-- One of Go's own tables, pinned by name: the form's constant. -/
def laid_unicode_utf8_first : DataW Unit := Go.Pinned.utf8First

/-- 'laws.FnExactMsgOk': WHATEVER THE INPUT: true; the input reads as it did. -/
def fnExactMsgOkSpec : ChangeSpec := { name := "fnExactMsgOk", fn := fun _ => fun
  | [d] => { results := [.lit (.bool true)], args := [d] }
  | _ => none }
def fnExactMsgOkRow : OpenClaim := { program := "ytpcgppelelfmiaadoor", sum := "a2d56abfb7c84eb893059884cc3736162509b51928fc452ed4aa27a572432a23", func := "loop.example/g00480/laws.FnExactMsgOk", spec := "fnExactMsgOk", inPlace := ["internal/bytealg.IndexByteString", "internal/bytealg.IndexString", "internal/bytealg.CountString"], named := ["unicode/utf8.first", "unicode/utf8.acceptRanges", "internal/bytealg.MaxLen"], apart := false, laid := [("unicode/utf8.acceptRanges", laid_unicode_utf8_acceptRanges), ("unicode/utf8.first", laid_unicode_utf8_first)] }
def FnExactMsgOkSaid : Prop := fnExactMsgOkRow.holds Tryd.pinned (OpenSpec.ofChange fnExactMsgOkSpec)

/-- ITS FALSE NEIGHBOUR: 'it returns false'. Refute it at one input. -/
def fnExactMsgOkWrong : ChangeSpec := { name := "fnExactMsgOk", fn := fun _ => fun
  | [d] => { results := [.lit (.bool false)], args := [d] }
  | _ => none }
def FnExactMsgOkWrongFalsely : Prop := fnExactMsgOkRow.holds Tryd.pinned (OpenSpec.ofChange fnExactMsgOkWrong)

/-- 'laws.FnExactQueueOk': WHATEVER THE INPUT: true; the input reads as it did. -/
def fnExactQueueOkSpec : ChangeSpec := { name := "fnExactQueueOk", fn := fun _ => fun
  | [d] => { results := [.lit (.bool true)], args := [d] }
  | _ => none }
def fnExactQueueOkRow : OpenClaim := { program := "ytpcgppelelfmiaadoor", sum := "a2d56abfb7c84eb893059884cc3736162509b51928fc452ed4aa27a572432a23", func := "loop.example/g00480/laws.FnExactQueueOk", spec := "fnExactQueueOk", inPlace := ["internal/bytealg.IndexByteString", "internal/bytealg.IndexString", "internal/bytealg.CountString"], named := ["unicode/utf8.first", "unicode/utf8.acceptRanges", "internal/bytealg.MaxLen"], apart := false, laid := [("unicode/utf8.acceptRanges", laid_unicode_utf8_acceptRanges), ("unicode/utf8.first", laid_unicode_utf8_first)] }
def FnExactQueueOkSaid : Prop := fnExactQueueOkRow.holds Tryd.pinned (OpenSpec.ofChange fnExactQueueOkSpec)

/-- ITS FALSE NEIGHBOUR: 'it returns false'. Refute it at one input. -/
def fnExactQueueOkWrong : ChangeSpec := { name := "fnExactQueueOk", fn := fun _ => fun
  | [d] => { results := [.lit (.bool false)], args := [d] }
  | _ => none }
def FnExactQueueOkWrongFalsely : Prop := fnExactQueueOkRow.holds Tryd.pinned (OpenSpec.ofChange fnExactQueueOkWrong)

/-- 'laws.FnExactOutOk': WHATEVER THE INPUT: true; the input reads as it did. -/
def fnExactOutOkSpec : ChangeSpec := { name := "fnExactOutOk", fn := fun _ => fun
  | [d] => { results := [.lit (.bool true)], args := [d] }
  | _ => none }
def fnExactOutOkRow : OpenClaim := { program := "ytpcgppelelfmiaadoor", sum := "a2d56abfb7c84eb893059884cc3736162509b51928fc452ed4aa27a572432a23", func := "loop.example/g00480/laws.FnExactOutOk", spec := "fnExactOutOk", inPlace := ["internal/bytealg.IndexByteString", "internal/bytealg.IndexString", "internal/bytealg.CountString"], unfollowed := true, recurses := true, named := ["unicode/utf8.first", "unicode/utf8.acceptRanges", "internal/bytealg.MaxLen"], apart := false, laid := [("unicode/utf8.acceptRanges", laid_unicode_utf8_acceptRanges), ("unicode/utf8.first", laid_unicode_utf8_first)] }
def FnExactOutOkSaid : Prop := fnExactOutOkRow.holds Tryd.pinned (OpenSpec.ofChange fnExactOutOkSpec)

/-- ITS FALSE NEIGHBOUR: 'it returns false'. Refute it at one input. -/
def fnExactOutOkWrong : ChangeSpec := { name := "fnExactOutOk", fn := fun _ => fun
  | [d] => { results := [.lit (.bool false)], args := [d] }
  | _ => none }
def FnExactOutOkWrongFalsely : Prop := fnExactOutOkRow.holds Tryd.pinned (OpenSpec.ofChange fnExactOutOkWrong)

/-- 'laws.FnExactOutReady': WHATEVER THE INPUT: true; the input reads as it did. -/
def fnExactOutReadySpec : ChangeSpec := { name := "fnExactOutReady", fn := fun _ => fun
  | [d] => { results := [.lit (.bool true)], args := [d] }
  | _ => none }
def fnExactOutReadyRow : OpenClaim := { program := "ytpcgppelelfmiaadoor", sum := "a2d56abfb7c84eb893059884cc3736162509b51928fc452ed4aa27a572432a23", func := "loop.example/g00480/laws.FnExactOutReady", spec := "fnExactOutReady", inPlace := ["internal/bytealg.IndexByteString", "internal/bytealg.IndexString", "internal/bytealg.CountString"], unfollowed := true, recurses := true, named := ["unicode/utf8.first", "unicode/utf8.acceptRanges", "internal/bytealg.MaxLen"], apart := false, laid := [("unicode/utf8.acceptRanges", laid_unicode_utf8_acceptRanges), ("unicode/utf8.first", laid_unicode_utf8_first)] }
def FnExactOutReadySaid : Prop := fnExactOutReadyRow.holds Tryd.pinned (OpenSpec.ofChange fnExactOutReadySpec)

/-- ITS FALSE NEIGHBOUR: 'it returns false'. Refute it at one input. -/
def fnExactOutReadyWrong : ChangeSpec := { name := "fnExactOutReady", fn := fun _ => fun
  | [d] => { results := [.lit (.bool false)], args := [d] }
  | _ => none }
def FnExactOutReadyWrongFalsely : Prop := fnExactOutReadyRow.holds Tryd.pinned (OpenSpec.ofChange fnExactOutReadyWrong)

/-- 'laws.FnExactSessOk': WHATEVER THE INPUT: true; the input reads as it did. -/
def fnExactSessOkSpec : ChangeSpec := { name := "fnExactSessOk", fn := fun _ => fun
  | [d] => { results := [.lit (.bool true)], args := [d] }
  | _ => none }
def fnExactSessOkRow : OpenClaim := { program := "ytpcgppelelfmiaadoor", sum := "a2d56abfb7c84eb893059884cc3736162509b51928fc452ed4aa27a572432a23", func := "loop.example/g00480/laws.FnExactSessOk", spec := "fnExactSessOk", inPlace := ["internal/bytealg.IndexByteString", "internal/bytealg.IndexString", "internal/bytealg.CountString"], unfollowed := true, recurses := true, named := ["unicode/utf8.first", "unicode/utf8.acceptRanges", "internal/bytealg.MaxLen"], apart := false, laid := [("unicode/utf8.acceptRanges", laid_unicode_utf8_acceptRanges), ("unicode/utf8.first", laid_unicode_utf8_first)] }
def FnExactSessOkSaid : Prop := fnExactSessOkRow.holds Tryd.pinned (OpenSpec.ofChange fnExactSessOkSpec)

/-- ITS FALSE NEIGHBOUR: 'it returns false'. Refute it at one input. -/
def fnExactSessOkWrong : ChangeSpec := { name := "fnExactSessOk", fn := fun _ => fun
  | [d] => { results := [.lit (.bool false)], args := [d] }
  | _ => none }
def FnExactSessOkWrongFalsely : Prop := fnExactSessOkRow.holds Tryd.pinned (OpenSpec.ofChange fnExactSessOkWrong)

/-- 'laws.FnExactStripeOk': WHATEVER THE INPUT: true; the input reads as it did. -/
def fnExactStripeOkSpec : ChangeSpec := { name := "fnExactStripeOk", fn := fun _ => fun
  | [d1, d2] => { results := [.lit (.bool true)], args := [d1, d2] }
  | _ => none }
def fnExactStripeOkRow : OpenClaim := { program := "ytpcgppelelfmiaadoor", sum := "a2d56abfb7c84eb893059884cc3736162509b51928fc452ed4aa27a572432a23", func := "loop.example/g00480/laws.FnExactStripeOk", spec := "fnExactStripeOk", inPlace := ["internal/bytealg.IndexByteString", "internal/bytealg.IndexString", "internal/bytealg.CountString"], unfollowed := true, recurses := true, named := ["unicode/utf8.first", "unicode/utf8.acceptRanges", "internal/bytealg.MaxLen"], apart := false, laid := [("unicode/utf8.acceptRanges", laid_unicode_utf8_acceptRanges), ("unicode/utf8.first", laid_unicode_utf8_first)] }
def FnExactStripeOkSaid : Prop := fnExactStripeOkRow.holds Tryd.pinned (OpenSpec.ofChange fnExactStripeOkSpec)

/-- ITS FALSE NEIGHBOUR: 'it returns false'. Refute it at one input. -/
def fnExactStripeOkWrong : ChangeSpec := { name := "fnExactStripeOk", fn := fun _ => fun
  | [d1, d2] => { results := [.lit (.bool false)], args := [d1, d2] }
  | _ => none }
def FnExactStripeOkWrongFalsely : Prop := fnExactStripeOkRow.holds Tryd.pinned (OpenSpec.ofChange fnExactStripeOkWrong)

/-- 'laws.FnExactPush': WHATEVER THE INPUT: true; the input reads as it did. -/
def fnExactPushSpec : ChangeSpec := { name := "fnExactPush", fn := fun _ => fun
  | [d1, d2] => { results := [.lit (.bool true)], args := [d1, d2] }
  | _ => none }
def fnExactPushRow : OpenClaim := { program := "ytpcgppelelfmiaadoor", sum := "a2d56abfb7c84eb893059884cc3736162509b51928fc452ed4aa27a572432a23", func := "loop.example/g00480/laws.FnExactPush", spec := "fnExactPush", inPlace := ["internal/bytealg.IndexByteString", "internal/bytealg.IndexString", "internal/bytealg.CountString"], named := ["unicode/utf8.first", "unicode/utf8.acceptRanges", "internal/bytealg.MaxLen"], apart := false, laid := [("unicode/utf8.acceptRanges", laid_unicode_utf8_acceptRanges), ("unicode/utf8.first", laid_unicode_utf8_first)] }
def FnExactPushSaid : Prop := fnExactPushRow.holds Tryd.pinned (OpenSpec.ofChange fnExactPushSpec)

/-- ITS FALSE NEIGHBOUR: 'it returns false'. Refute it at one input. -/
def fnExactPushWrong : ChangeSpec := { name := "fnExactPush", fn := fun _ => fun
  | [d1, d2] => { results := [.lit (.bool false)], args := [d1, d2] }
  | _ => none }
def FnExactPushWrongFalsely : Prop := fnExactPushRow.holds Tryd.pinned (OpenSpec.ofChange fnExactPushWrong)

/-- 'laws.FnExactOutPush': WHATEVER THE INPUT: true; the input reads as it did. -/
def fnExactOutPushSpec : ChangeSpec := { name := "fnExactOutPush", fn := fun _ => fun
  | [d1, d2] => { results := [.lit (.bool true)], args := [d1, d2] }
  | _ => none }
def fnExactOutPushRow : OpenClaim := { program := "ytpcgppelelfmiaadoor", sum := "a2d56abfb7c84eb893059884cc3736162509b51928fc452ed4aa27a572432a23", func := "loop.example/g00480/laws.FnExactOutPush", spec := "fnExactOutPush", inPlace := ["internal/bytealg.IndexByteString", "internal/bytealg.IndexString", "internal/bytealg.CountString"], unfollowed := true, recurses := true, named := ["unicode/utf8.first", "unicode/utf8.acceptRanges", "internal/bytealg.MaxLen"], apart := false, laid := [("unicode/utf8.acceptRanges", laid_unicode_utf8_acceptRanges), ("unicode/utf8.first", laid_unicode_utf8_first)] }
def FnExactOutPushSaid : Prop := fnExactOutPushRow.holds Tryd.pinned (OpenSpec.ofChange fnExactOutPushSpec)

/-- ITS FALSE NEIGHBOUR: 'it returns false'. Refute it at one input. -/
def fnExactOutPushWrong : ChangeSpec := { name := "fnExactOutPush", fn := fun _ => fun
  | [d1, d2] => { results := [.lit (.bool false)], args := [d1, d2] }
  | _ => none }
def FnExactOutPushWrongFalsely : Prop := fnExactOutPushRow.holds Tryd.pinned (OpenSpec.ofChange fnExactOutPushWrong)

/-- 'laws.FnExactSessNew': WHATEVER THE INPUT: true; the input reads as it did. -/
def fnExactSessNewSpec : ChangeSpec := { name := "fnExactSessNew", fn := fun _ => fun
  | [d1, d2, d3, d4, d5] => { results := [.lit (.bool true)], args := [d1, d2, d3, d4, d5] }
  | _ => none }
def fnExactSessNewRow : OpenClaim := { program := "ytpcgppelelfmiaadoor", sum := "a2d56abfb7c84eb893059884cc3736162509b51928fc452ed4aa27a572432a23", func := "loop.example/g00480/laws.FnExactSessNew", spec := "fnExactSessNew", inPlace := ["internal/bytealg.IndexByteString", "internal/bytealg.IndexString", "internal/bytealg.CountString"], unfollowed := true, recurses := true, named := ["unicode/utf8.first", "unicode/utf8.acceptRanges", "internal/bytealg.MaxLen"], apart := false, laid := [("unicode/utf8.acceptRanges", laid_unicode_utf8_acceptRanges), ("unicode/utf8.first", laid_unicode_utf8_first)] }
def FnExactSessNewSaid : Prop := fnExactSessNewRow.holds Tryd.pinned (OpenSpec.ofChange fnExactSessNewSpec)

/-- ITS FALSE NEIGHBOUR: 'it returns false'. Refute it at one input. -/
def fnExactSessNewWrong : ChangeSpec := { name := "fnExactSessNew", fn := fun _ => fun
  | [d1, d2, d3, d4, d5] => { results := [.lit (.bool false)], args := [d1, d2, d3, d4, d5] }
  | _ => none }
def FnExactSessNewWrongFalsely : Prop := fnExactSessNewRow.holds Tryd.pinned (OpenSpec.ofChange fnExactSessNewWrong)

/- THE SECOND FORM. 'bulk': how many values and letters a reading holds, each counted each time it is reached (what is shared counts as often as it is met; a slice's spare places count too). A statement '..UptoSaid' is the law's where the arguments, and the package variables that the reading takes, are together of bulk at most 1048576: NARROWER than '..Said'. Prove '..Said' where nothing that the law and all that it calls make is longer than what came in: it says more and counts as full. Else prove '..UptoSaid'. A law counts once. -/
mutual
def uptoBulk {H : Type} : DataW H → Nat
  | .lit (.string bytes) => bytes.length + 1
  | .lit _ => 1
  | .nil => 1
  | .ptr d => uptoBulk d + 1
  | .slice elems spare => uptoBulkAll elems + uptoBulkAll spare + 1
  | .agg parts => uptoBulkAll parts + 1
  | .iface _ d => uptoBulk d + 1
  | .map entries => uptoBulkEntries entries + 1
  | .held _ => 1
def uptoBulkAll {H : Type} : List (DataW H) → Nat
  | [] => 0
  | d :: r => uptoBulk d + uptoBulkAll r
def uptoBulkEntries {H : Type} : List (Lit × DataW H) → Nat
  | [] => 0
  | x :: r => uptoBulkEntry x + uptoBulkEntries r
def uptoBulkEntry {H : Type} : Lit × DataW H → Nat
  | (.string bytes, d) => bytes.length + uptoBulk d + 1
  | (_, d) => uptoBulk d + 1
 end
def uptoSmall : (H : Type) → List (DataW H) → Bool := fun _ ds => decide (uptoBulkAll ds ≤ 1048576)
def OpenSpec.upto (s : _root_.Go.ChangeSpec) : _root_.Go.OpenSpec := { _root_.Go.OpenSpec.ofChange s with cond := some uptoSmall }

/-- 'laws.FnExactMsgOk', WHERE WHAT IT READS IS OF BULK AT MOST 1048576: true; the input reads as it did. -/
def fnExactMsgOkUptoRow : OpenClaim := { program := "ytpcgppelelfmiaadoor", sum := "a2d56abfb7c84eb893059884cc3736162509b51928fc452ed4aa27a572432a23", func := "loop.example/g00480/laws.FnExactMsgOk", spec := "fnExactMsgOk", inPlace := ["internal/bytealg.IndexByteString", "internal/bytealg.IndexString", "internal/bytealg.CountString"], named := ["unicode/utf8.first", "unicode/utf8.acceptRanges", "internal/bytealg.MaxLen"], apart := false, laid := [("unicode/utf8.acceptRanges", laid_unicode_utf8_acceptRanges), ("unicode/utf8.first", laid_unicode_utf8_first)], narrowed := true }
def FnExactMsgOkUptoSaid : Prop := fnExactMsgOkUptoRow.holds Tryd.pinned (OpenSpec.upto fnExactMsgOkSpec)

/-- 'laws.FnExactQueueOk', WHERE WHAT IT READS IS OF BULK AT MOST 1048576: true; the input reads as it did. -/
def fnExactQueueOkUptoRow : OpenClaim := { program := "ytpcgppelelfmiaadoor", sum := "a2d56abfb7c84eb893059884cc3736162509b51928fc452ed4aa27a572432a23", func := "loop.example/g00480/laws.FnExactQueueOk", spec := "fnExactQueueOk", inPlace := ["internal/bytealg.IndexByteString", "internal/bytealg.IndexString", "internal/bytealg.CountString"], named := ["unicode/utf8.first", "unicode/utf8.acceptRanges", "internal/bytealg.MaxLen"], apart := false, laid := [("unicode/utf8.acceptRanges", laid_unicode_utf8_acceptRanges), ("unicode/utf8.first", laid_unicode_utf8_first)], narrowed := true }
def FnExactQueueOkUptoSaid : Prop := fnExactQueueOkUptoRow.holds Tryd.pinned (OpenSpec.upto fnExactQueueOkSpec)

/-- 'laws.FnExactOutOk', WHERE WHAT IT READS IS OF BULK AT MOST 1048576: true; the input reads as it did. -/
def fnExactOutOkUptoRow : OpenClaim := { program := "ytpcgppelelfmiaadoor", sum := "a2d56abfb7c84eb893059884cc3736162509b51928fc452ed4aa27a572432a23", func := "loop.example/g00480/laws.FnExactOutOk", spec := "fnExactOutOk", inPlace := ["internal/bytealg.IndexByteString", "internal/bytealg.IndexString", "internal/bytealg.CountString"], unfollowed := true, recurses := true, named := ["unicode/utf8.first", "unicode/utf8.acceptRanges", "internal/bytealg.MaxLen"], apart := false, laid := [("unicode/utf8.acceptRanges", laid_unicode_utf8_acceptRanges), ("unicode/utf8.first", laid_unicode_utf8_first)], narrowed := true }
def FnExactOutOkUptoSaid : Prop := fnExactOutOkUptoRow.holds Tryd.pinned (OpenSpec.upto fnExactOutOkSpec)

/-- 'laws.FnExactOutReady', WHERE WHAT IT READS IS OF BULK AT MOST 1048576: true; the input reads as it did. -/
def fnExactOutReadyUptoRow : OpenClaim := { program := "ytpcgppelelfmiaadoor", sum := "a2d56abfb7c84eb893059884cc3736162509b51928fc452ed4aa27a572432a23", func := "loop.example/g00480/laws.FnExactOutReady", spec := "fnExactOutReady", inPlace := ["internal/bytealg.IndexByteString", "internal/bytealg.IndexString", "internal/bytealg.CountString"], unfollowed := true, recurses := true, named := ["unicode/utf8.first", "unicode/utf8.acceptRanges", "internal/bytealg.MaxLen"], apart := false, laid := [("unicode/utf8.acceptRanges", laid_unicode_utf8_acceptRanges), ("unicode/utf8.first", laid_unicode_utf8_first)], narrowed := true }
def FnExactOutReadyUptoSaid : Prop := fnExactOutReadyUptoRow.holds Tryd.pinned (OpenSpec.upto fnExactOutReadySpec)

/-- 'laws.FnExactSessOk', WHERE WHAT IT READS IS OF BULK AT MOST 1048576: true; the input reads as it did. -/
def fnExactSessOkUptoRow : OpenClaim := { program := "ytpcgppelelfmiaadoor", sum := "a2d56abfb7c84eb893059884cc3736162509b51928fc452ed4aa27a572432a23", func := "loop.example/g00480/laws.FnExactSessOk", spec := "fnExactSessOk", inPlace := ["internal/bytealg.IndexByteString", "internal/bytealg.IndexString", "internal/bytealg.CountString"], unfollowed := true, recurses := true, named := ["unicode/utf8.first", "unicode/utf8.acceptRanges", "internal/bytealg.MaxLen"], apart := false, laid := [("unicode/utf8.acceptRanges", laid_unicode_utf8_acceptRanges), ("unicode/utf8.first", laid_unicode_utf8_first)], narrowed := true }
def FnExactSessOkUptoSaid : Prop := fnExactSessOkUptoRow.holds Tryd.pinned (OpenSpec.upto fnExactSessOkSpec)

/-- 'laws.FnExactStripeOk', WHERE WHAT IT READS IS OF BULK AT MOST 1048576: true; the input reads as it did. -/
def fnExactStripeOkUptoRow : OpenClaim := { program := "ytpcgppelelfmiaadoor", sum := "a2d56abfb7c84eb893059884cc3736162509b51928fc452ed4aa27a572432a23", func := "loop.example/g00480/laws.FnExactStripeOk", spec := "fnExactStripeOk", inPlace := ["internal/bytealg.IndexByteString", "internal/bytealg.IndexString", "internal/bytealg.CountString"], unfollowed := true, recurses := true, named := ["unicode/utf8.first", "unicode/utf8.acceptRanges", "internal/bytealg.MaxLen"], apart := false, laid := [("unicode/utf8.acceptRanges", laid_unicode_utf8_acceptRanges), ("unicode/utf8.first", laid_unicode_utf8_first)], narrowed := true }
def FnExactStripeOkUptoSaid : Prop := fnExactStripeOkUptoRow.holds Tryd.pinned (OpenSpec.upto fnExactStripeOkSpec)

/-- 'laws.FnExactPush', WHERE WHAT IT READS IS OF BULK AT MOST 1048576: true; the input reads as it did. -/
def fnExactPushUptoRow : OpenClaim := { program := "ytpcgppelelfmiaadoor", sum := "a2d56abfb7c84eb893059884cc3736162509b51928fc452ed4aa27a572432a23", func := "loop.example/g00480/laws.FnExactPush", spec := "fnExactPush", inPlace := ["internal/bytealg.IndexByteString", "internal/bytealg.IndexString", "internal/bytealg.CountString"], named := ["unicode/utf8.first", "unicode/utf8.acceptRanges", "internal/bytealg.MaxLen"], apart := false, laid := [("unicode/utf8.acceptRanges", laid_unicode_utf8_acceptRanges), ("unicode/utf8.first", laid_unicode_utf8_first)], narrowed := true }
def FnExactPushUptoSaid : Prop := fnExactPushUptoRow.holds Tryd.pinned (OpenSpec.upto fnExactPushSpec)

/-- 'laws.FnExactOutPush', WHERE WHAT IT READS IS OF BULK AT MOST 1048576: true; the input reads as it did. -/
def fnExactOutPushUptoRow : OpenClaim := { program := "ytpcgppelelfmiaadoor", sum := "a2d56abfb7c84eb893059884cc3736162509b51928fc452ed4aa27a572432a23", func := "loop.example/g00480/laws.FnExactOutPush", spec := "fnExactOutPush", inPlace := ["internal/bytealg.IndexByteString", "internal/bytealg.IndexString", "internal/bytealg.CountString"], unfollowed := true, recurses := true, named := ["unicode/utf8.first", "unicode/utf8.acceptRanges", "internal/bytealg.MaxLen"], apart := false, laid := [("unicode/utf8.acceptRanges", laid_unicode_utf8_acceptRanges), ("unicode/utf8.first", laid_unicode_utf8_first)], narrowed := true }
def FnExactOutPushUptoSaid : Prop := fnExactOutPushUptoRow.holds Tryd.pinned (OpenSpec.upto fnExactOutPushSpec)

/-- 'laws.FnExactSessNew', WHERE WHAT IT READS IS OF BULK AT MOST 1048576: true; the input reads as it did. -/
def fnExactSessNewUptoRow : OpenClaim := { program := "ytpcgppelelfmiaadoor", sum := "a2d56abfb7c84eb893059884cc3736162509b51928fc452ed4aa27a572432a23", func := "loop.example/g00480/laws.FnExactSessNew", spec := "fnExactSessNew", inPlace := ["internal/bytealg.IndexByteString", "internal/bytealg.IndexString", "internal/bytealg.CountString"], unfollowed := true, recurses := true, named := ["unicode/utf8.first", "unicode/utf8.acceptRanges", "internal/bytealg.MaxLen"], apart := false, laid := [("unicode/utf8.acceptRanges", laid_unicode_utf8_acceptRanges), ("unicode/utf8.first", laid_unicode_utf8_first)], narrowed := true }
def FnExactSessNewUptoSaid : Prop := fnExactSessNewUptoRow.holds Tryd.pinned (OpenSpec.upto fnExactSessNewSpec)

end Rows
end Go.Proofs.YtpcgppelelfmiaaDoor
