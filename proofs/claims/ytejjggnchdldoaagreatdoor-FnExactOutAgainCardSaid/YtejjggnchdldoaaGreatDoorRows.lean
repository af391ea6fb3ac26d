/-
  NARROWER THAN 'FOR EVERY INPUT', by the rows' own cells (each row's printed sentence says how): FnExactLeave: laid · FnExactTake: laid · FnExactSessPush: laid · FnExactOutAgain: laid · FnExactOutNext: laid · FnExactOutAck: laid · FnExactPutSess: laid.
  DERIVED. THE GIVEN ROWS OF THIS SEAT. 7 by the template 'for every input the law returns true; each argument reads behind the call as it read before'; 0 by the template 'total and deterministic' (their statements: YtejjggnchdldoaaGreatDoorTotals.lean).
  GIVEN WITH THE SEED: the statements are not yours to turn. If you find one false, say at which input.
  Laid BY PROGRAM, IN A SANDBOX (cutbox-rows.mjs): the forced cells as the released guide's own fill.sh prints them over the translation 16ea7c3417f3ba68… (all of the seat's roots in one cut). By AI agents, Wed Nov 11 2026. No macro, syntax, notation, axiom, sorry.
-/
import Derived.Test.YtejjggnchdldoaaGreatDoorChecked
import GoSem.PinnedTables
import GoSem.Claim
import GoSem.ClaimJoined
import GoSem.ClaimMapViews
import Derived.JoinedTies
import Derived.KernelRfl
namespace Go.Proofs.YtejjggnchdldoaaGreatDoor
/- THE CELL 'sum', in the pinned program and in every row, IS THE sha256 OF THE DUMP (.gsa) THAT YtejjggnchdldoaaGreatDoorProg.lean LOADS. Nothing in Lean hashes anything: it is a label: what it is worth is what the hold of that sum in a sandbox is worth. -/
noncomputable def Tryz.pinned : Pinned := { name := "ytejjggnchdldoaagreatdoor", sum := "16ea7c3417f3ba68a2b804833580ffc94e3ab6b1a9917167aa1e12650c6a55c9", checked := Tryz.checked }
namespace Rows
def none {H : Type} : Left H := { results := [], args := [] }

/- WHAT THE LISTED PACKAGE-LEVEL VARIABLES READ AS WHEN THE CALL BEGINS. Each datum BY PROGRAM (the guide's laid-datum.mjs) off the statement by which the dump's own 'gosem.cut.vars' lays the variable. In a bare row this is a premise. The card (YtejjggnchdldoaaGreatDoorCards.lean) ties it to the program's text. -/
def laid_unicode_utf8_acceptRanges {H : Type} : DataW H := .agg [.agg [.lit (.int .u8 128), .lit (.int .u8 191)], .agg [.lit (.int .u8 160), .lit (.int .u8 191)], .agg [.lit (.int .u8 128), .lit (.int .u8 159)], .agg [.lit (.int .u8 144), .lit (.int .u8 191)], .agg [.lit (.int .u8 128), .lit (.int .u8 143)], .agg [.lit (.int .u8 0), .lit (.int .u8 0)], .agg [.lit (.int .u8 0), .lit (.int .u8 0)], .agg [.lit (.int .u8 0), .lit (.int .u8 0)], .agg [.lit (.int .u8 0), .lit (.int .u8 0)], .agg [.lit (.int .u8 0), .lit (.int .u8 0)], .agg [.lit (.int .u8 0), .lit (.int .u8 0)], .agg [.lit (.int .u8 0), .lit (.int .u8 0)], .agg [.lit (.int .u8 0), .lit (.int .u8 0)], .agg [.lit (.int .u8 0), .lit (.int .u8 0)], .agg [.lit (.int .u8 0), .lit (.int .u8 0)], .agg [.lit (.int .u8 0), .lit (.int .u8 0)]]
/-- One of Go's own tables, pinned by name: the form's constant. -/
def laid_unicode_utf8_first : DataW Unit := Go.Pinned.utf8First

/-- 'laws.FnExactLeave': WHATEVER THE INPUT: true; the input reads as it did. -/
def fnExactLeaveSpec : ChangeSpec := { name := "fnExactLeave", fn := fun _ => fun
  | [d] => { results := [.lit (.bool true)], args := [d] }
  | _ => none }
def fnExactLeaveRow : OpenClaim := { program := "ytejjggnchdldoaagreatdoor", sum := "16ea7c3417f3ba68a2b804833580ffc94e3ab6b1a9917167aa1e12650c6a55c9", func := "loop.example/g00480/laws.FnExactLeave", spec := "fnExactLeave", inPlace := ["internal/bytealg.IndexByteString", "internal/bytealg.IndexString", "internal/bytealg.CountString"], unfollowed := true, recurses := true, named := ["unicode/utf8.first", "unicode/utf8.acceptRanges", "internal/bytealg.MaxLen"], apart := false, laid := [("unicode/utf8.acceptRanges", laid_unicode_utf8_acceptRanges), ("unicode/utf8.first", laid_unicode_utf8_first)] }
def FnExactLeaveSaid : Prop := fnExactLeaveRow.holds Tryz.pinned (OpenSpec.ofChange fnExactLeaveSpec)

/-- ITS FALSE NEIGHBOUR: 'it returns false'. Refute it at one input. -/
def fnExactLeaveWrong : ChangeSpec := { name := "fnExactLeave", fn := fun _ => fun
  | [d] => { results := [.lit (.bool false)], args := [d] }
  | _ => none }
def FnExactLeaveWrongFalsely : Prop := fnExactLeaveRow.holds Tryz.pinned (OpenSpec.ofChange fnExactLeaveWrong)

/-- 'laws.FnExactTake': WHATEVER THE INPUT: true; the input reads as it did. -/
def fnExactTakeSpec : ChangeSpec := { name := "fnExactTake", fn := fun _ => fun
  | [d1, d2, d3, d4] => { results := [.lit (.bool true)], args := [d1, d2, d3, d4] }
  | _ => none }
def fnExactTakeRow : OpenClaim := { program := "ytejjggnchdldoaagreatdoor", sum := "16ea7c3417f3ba68a2b804833580ffc94e3ab6b1a9917167aa1e12650c6a55c9", func := "loop.example/g00480/laws.FnExactTake", spec := "fnExactTake", inPlace := ["internal/bytealg.IndexByteString", "internal/bytealg.IndexString", "internal/bytealg.CountString"], unfollowed := true, recurses := true, named := ["unicode/utf8.first", "unicode/utf8.acceptRanges", "internal/bytealg.MaxLen"], apart := false, laid := [("unicode/utf8.acceptRanges", laid_unicode_utf8_acceptRanges), ("unicode/utf8.first", laid_unicode_utf8_first)] }
def FnExactTakeSaid : Prop := fnExactTakeRow.holds Tryz.pinned (OpenSpec.ofChange fnExactTakeSpec)

/-- ITS FALSE NEIGHBOUR: 'it returns false'. Refute it at one input. -/
def fnExactTakeWrong : ChangeSpec := { name := "fnExactTake", fn := fun _ => fun
  | [d1, d2, d3, d4] => { results := [.lit (.bool false)], args := [d1, d2, d3, d4] }
  | _ => none }
def FnExactTakeWrongFalsely : Prop := fnExactTakeRow.holds Tryz.pinned (OpenSpec.ofChange fnExactTakeWrong)

/-- 'laws.FnExactSessPush': WHATEVER THE INPUT: true; the input reads as it did. -/
def fnExactSessPushSpec : ChangeSpec := { name := "fnExactSessPush", fn := fun _ => fun
  | [d1, d2, d3] => { results := [.lit (.bool true)], args := [d1, d2, d3] }
  | _ => none }
def fnExactSessPushRow : OpenClaim := { program := "ytejjggnchdldoaagreatdoor", sum := "16ea7c3417f3ba68a2b804833580ffc94e3ab6b1a9917167aa1e12650c6a55c9", func := "loop.example/g00480/laws.FnExactSessPush", spec := "fnExactSessPush", inPlace := ["internal/bytealg.IndexByteString", "internal/bytealg.IndexString", "internal/bytealg.CountString"], unfollowed := true, recurses := true, named := ["unicode/utf8.first", "unicode/utf8.acceptRanges", "internal/bytealg.MaxLen"], apart := false, laid := [("unicode/utf8.acceptRanges", laid_unicode_utf8_acceptRanges), ("unicode/utf8.first", laid_unicode_utf8_first)] }
def FnExactSessPushSaid : Prop := fnExactSessPushRow.holds Tryz.pinned (OpenSpec.ofChange fnExactSessPushSpec)

/-- ITS FALSE NEIGHBOUR: 'it returns false'. Refute it at one input. -/
def fnExactSessPushWrong : ChangeSpec := { name := "fnExactSessPush", fn := fun _ => fun
  | [d1, d2, d3] => { results := [.lit (.bool false)], args := [d1, d2, d3] }
  | _ => none }
def FnExactSessPushWrongFalsely : Prop := fnExactSessPushRow.holds Tryz.pinned (OpenSpec.ofChange fnExactSessPushWrong)

/-- 'laws.FnExactOutAgain': WHATEVER THE INPUT: true; the input reads as it did. -/
def fnExactOutAgainSpec : ChangeSpec := { name := "fnExactOutAgain", fn := fun _ => fun
  | [d] => { results := [.lit (.bool true)], args := [d] }
  | _ => none }
def fnExactOutAgainRow : OpenClaim := { program := "ytejjggnchdldoaagreatdoor", sum := "16ea7c3417f3ba68a2b804833580ffc94e3ab6b1a9917167aa1e12650c6a55c9", func := "loop.example/g00480/laws.FnExactOutAgain", spec := "fnExactOutAgain", inPlace := ["internal/bytealg.IndexByteString", "internal/bytealg.IndexString", "internal/bytealg.CountString"], unfollowed := true, recurses := true, named := ["unicode/utf8.first", "unicode/utf8.acceptRanges", "internal/bytealg.MaxLen"], apart := false, laid := [("unicode/utf8.acceptRanges", laid_unicode_utf8_acceptRanges), ("unicode/utf8.first", laid_unicode_utf8_first)] }
def FnExactOutAgainSaid : Prop := fnExactOutAgainRow.holds Tryz.pinned (OpenSpec.ofChange fnExactOutAgainSpec)

/-- ITS FALSE NEIGHBOUR: 'it returns false'. Refute it at one input. -/
def fnExactOutAgainWrong : ChangeSpec := { name := "fnExactOutAgain", fn := fun _ => fun
  | [d] => { results := [.lit (.bool false)], args := [d] }
  | _ => none }
def FnExactOutAgainWrongFalsely : Prop := fnExactOutAgainRow.holds Tryz.pinned (OpenSpec.ofChange fnExactOutAgainWrong)

/-- 'laws.FnExactOutNext': WHATEVER THE INPUT: true; the input reads as it did. -/
def fnExactOutNextSpec : ChangeSpec := { name := "fnExactOutNext", fn := fun _ => fun
  | [d] => { results := [.lit (.bool true)], args := [d] }
  | _ => none }
def fnExactOutNextRow : OpenClaim := { program := "ytejjggnchdldoaagreatdoor", sum := "16ea7c3417f3ba68a2b804833580ffc94e3ab6b1a9917167aa1e12650c6a55c9", func := "loop.example/g00480/laws.FnExactOutNext", spec := "fnExactOutNext", inPlace := ["internal/bytealg.IndexByteString", "internal/bytealg.IndexString", "internal/bytealg.CountString"], unfollowed := true, recurses := true, named := ["unicode/utf8.first", "unicode/utf8.acceptRanges", "internal/bytealg.MaxLen"], apart := false, laid := [("unicode/utf8.acceptRanges", laid_unicode_utf8_acceptRanges), ("unicode/utf8.first", laid_unicode_utf8_first)] }
def FnExactOutNextSaid : Prop := fnExactOutNextRow.holds Tryz.pinned (OpenSpec.ofChange fnExactOutNextSpec)

/-- ITS FALSE NEIGHBOUR: 'it returns false'. Refute it at one input. -/
def fnExactOutNextWrong : ChangeSpec := { name := "fnExactOutNext", fn := fun _ => fun
  | [d] => { results := [.lit (.bool false)], args := [d] }
  | _ => none }
def FnExactOutNextWrongFalsely : Prop := fnExactOutNextRow.holds Tryz.pinned (OpenSpec.ofChange fnExactOutNextWrong)

/-- 'laws.FnExactOutAck': WHATEVER THE INPUT: true; the input reads as it did. -/
def fnExactOutAckSpec : ChangeSpec := { name := "fnExactOutAck", fn := fun _ => fun
  | [d1, d2, d3] => { results := [.lit (.bool true)], args := [d1, d2, d3] }
  | _ => none }
def fnExactOutAckRow : OpenClaim := { program := "ytejjggnchdldoaagreatdoor", sum := "16ea7c3417f3ba68a2b804833580ffc94e3ab6b1a9917167aa1e12650c6a55c9", func := "loop.example/g00480/laws.FnExactOutAck", spec := "fnExactOutAck", inPlace := ["internal/bytealg.IndexByteString", "internal/bytealg.IndexString", "internal/bytealg.CountString"], unfollowed := true, recurses := true, named := ["unicode/utf8.first", "unicode/utf8.acceptRanges", "internal/bytealg.MaxLen"], apart := false, laid := [("unicode/utf8.acceptRanges", laid_unicode_utf8_acceptRanges), ("unicode/utf8.first", laid_unicode_utf8_first)] }
def FnExactOutAckSaid : Prop := fnExactOutAckRow.holds Tryz.pinned (OpenSpec.ofChange fnExactOutAckSpec)

/-- ITS FALSE NEIGHBOUR: 'it returns false'. Refute it at one input. -/
def fnExactOutAckWrong : ChangeSpec := { name := "fnExactOutAck", fn := fun _ => fun
  | [d1, d2, d3] => { results := [.lit (.bool false)], args := [d1, d2, d3] }
  | _ => none }
def FnExactOutAckWrongFalsely : Prop := fnExactOutAckRow.holds Tryz.pinned (OpenSpec.ofChange fnExactOutAckWrong)

/-- 'laws.FnExactPutSess': WHATEVER THE INPUT: true; the input reads as it did. -/
def fnExactPutSessSpec : ChangeSpec := { name := "fnExactPutSess", fn := fun _ => fun
  | [d1, d2] => { results := [.lit (.bool true)], args := [d1, d2] }
  | _ => none }
def fnExactPutSessRow : OpenClaim := { program := "ytejjggnchdldoaagreatdoor", sum := "16ea7c3417f3ba68a2b804833580ffc94e3ab6b1a9917167aa1e12650c6a55c9", func := "loop.example/g00480/laws.FnExactPutSess", spec := "fnExactPutSess", inPlace := ["slices.overlaps[loop.example/g00480/impl.Sess]", "internal/bytealg.IndexByteString", "internal/bytealg.IndexString", "internal/bytealg.CountString"], unfollowed := true, recurses := true, named := ["unicode/utf8.first", "unicode/utf8.acceptRanges", "internal/bytealg.MaxLen"], apart := false, laid := [("unicode/utf8.acceptRanges", laid_unicode_utf8_acceptRanges), ("unicode/utf8.first", laid_unicode_utf8_first)] }
def FnExactPutSessSaid : Prop := fnExactPutSessRow.holds Tryz.pinned (OpenSpec.ofChange fnExactPutSessSpec)

/-- ITS FALSE NEIGHBOUR: 'it returns false'. Refute it at one input. -/
def fnExactPutSessWrong : ChangeSpec := { name := "fnExactPutSess", fn := fun _ => fun
  | [d1, d2] => { results := [.lit (.bool false)], args := [d1, d2] }
  | _ => none }
def FnExactPutSessWrongFalsely : Prop := fnExactPutSessRow.holds Tryz.pinned (OpenSpec.ofChange fnExactPutSessWrong)

/- THE SECOND FORM. 'bulk': how many values and letters a reading holds, each counted each time it is reached (what is shared counts as often as it is met; a slice's spare places count too). A statement '..UptoSaid' is the law's where the arguments, and the package variables that the reading takes, are together of bulk at most 1048576: NARROWER than '..Said'. Prove '..Said' where nothing that the law and all that it calls make is longer than what came in: it says more and counts as full. Else prove '..UptoSaid'. A law counts once. -/
mutual
def uptoBulk {H : Type} : DataW H → Nat
  | .lit (.string bytes) => bytes.length + 1
  | .lit _ => 1
  | .nil => 1
  | .ptr d => uptoBulk d + 1
  | .slice elems spare => uptoBulkAll elems + uptoBulkAll spare + 1
  | .agg parts => uptoBulkAll parts + 1
  | .iface _ d => uptoBulk d + 1
  | .map entries => uptoBulkEntries entries + 1
  | .held _ => 1
def uptoBulkAll {H : Type} : List (DataW H) → Nat
  | [] => 0
  | d :: r => uptoBulk d + uptoBulkAll r
def uptoBulkEntries {H : Type} : List (Lit × DataW H) → Nat
  | [] => 0
  | x :: r => uptoBulkEntry x + uptoBulkEntries r
def uptoBulkEntry {H : Type} : Lit × DataW H → Nat
  | (.string bytes, d) => bytes.length + uptoBulk d + 1
  | (_, d) => uptoBulk d + 1
 end
def uptoSmall : (H : Type) → List (DataW H) → Bool := fun _ ds => decide (uptoBulkAll ds ≤ 1048576)
def OpenSpec.upto (s : _root_.Go.ChangeSpec) : _root_.Go.OpenSpec := { _root_.Go.OpenSpec.ofChange s with cond := some uptoSmall }

/-- 'laws.FnExactLeave', WHERE WHAT IT READS IS OF BULK AT MOST 1048576: true; the input reads as it did. -/
def fnExactLeaveUptoRow : OpenClaim := { program := "ytejjggnchdldoaagreatdoor", sum := "16ea7c3417f3ba68a2b804833580ffc94e3ab6b1a9917167aa1e12650c6a55c9", func := "loop.example/g00480/laws.FnExactLeave", spec := "fnExactLeave", inPlace := ["internal/bytealg.IndexByteString", "internal/bytealg.IndexString", "internal/bytealg.CountString"], unfollowed := true, recurses := true, named := ["unicode/utf8.first", "unicode/utf8.acceptRanges", "internal/bytealg.MaxLen"], apart := false, laid := [("unicode/utf8.acceptRanges", laid_unicode_utf8_acceptRanges), ("unicode/utf8.first", laid_unicode_utf8_first)], narrowed := true }
def FnExactLeaveUptoSaid : Prop := fnExactLeaveUptoRow.holds Tryz.pinned (OpenSpec.upto fnExactLeaveSpec)

/-- 'laws.FnExactTake', WHERE WHAT IT READS IS OF BULK AT MOST 1048576: true; the input reads as it did. -/
def fnExactTakeUptoRow : OpenClaim := { program := "ytejjggnchdldoaagreatdoor", sum := "16ea7c3417f3ba68a2b804833580ffc94e3ab6b1a9917167aa1e12650c6a55c9", func := "loop.example/g00480/laws.FnExactTake", spec := "fnExactTake", inPlace := ["internal/bytealg.IndexByteString", "internal/bytealg.IndexString", "internal/bytealg.CountString"], unfollowed := true, recurses := true, named := ["unicode/utf8.first", "unicode/utf8.acceptRanges", "internal/bytealg.MaxLen"], apart := false, laid := [("unicode/utf8.acceptRanges", laid_unicode_utf8_acceptRanges), ("unicode/utf8.first", laid_unicode_utf8_first)], narrowed := true }
def FnExactTakeUptoSaid : Prop := fnExactTakeUptoRow.holds Tryz.pinned (OpenSpec.upto fnExactTakeSpec)

/-- 'laws.FnExactSessPush', WHERE WHAT IT READS IS OF BULK AT MOST 1048576: true; the input reads as it did. -/
def fnExactSessPushUptoRow : OpenClaim := { program := "ytejjggnchdldoaagreatdoor", sum := "16ea7c3417f3ba68a2b804833580ffc94e3ab6b1a9917167aa1e12650c6a55c9", func := "loop.example/g00480/laws.FnExactSessPush", spec := "fnExactSessPush", inPlace := ["internal/bytealg.IndexByteString", "internal/bytealg.IndexString", "internal/bytealg.CountString"], unfollowed := true, recurses := true, named := ["unicode/utf8.first", "unicode/utf8.acceptRanges", "internal/bytealg.MaxLen"], apart := false, laid := [("unicode/utf8.acceptRanges", laid_unicode_utf8_acceptRanges), ("unicode/utf8.first", laid_unicode_utf8_first)], narrowed := true }
def FnExactSessPushUptoSaid : Prop := fnExactSessPushUptoRow.holds Tryz.pinned (OpenSpec.upto fnExactSessPushSpec)

/-- 'laws.FnExactOutAgain', WHERE WHAT IT READS IS OF BULK AT MOST 1048576: true; the input reads as it did. -/
def fnExactOutAgainUptoRow : OpenClaim := { program := "ytejjggnchdldoaagreatdoor", sum := "16ea7c3417f3ba68a2b804833580ffc94e3ab6b1a9917167aa1e12650c6a55c9", func := "loop.example/g00480/laws.FnExactOutAgain", spec := "fnExactOutAgain", inPlace := ["internal/bytealg.IndexByteString", "internal/bytealg.IndexString", "internal/bytealg.CountString"], unfollowed := true, recurses := true, named := ["unicode/utf8.first", "unicode/utf8.acceptRanges", "internal/bytealg.MaxLen"], apart := false, laid := [("unicode/utf8.acceptRanges", laid_unicode_utf8_acceptRanges), ("unicode/utf8.first", laid_unicode_utf8_first)], narrowed := true }
def FnExactOutAgainUptoSaid : Prop := fnExactOutAgainUptoRow.holds Tryz.pinned (OpenSpec.upto fnExactOutAgainSpec)

/-- 'laws.FnExactOutNext', WHERE WHAT IT READS IS OF BULK AT MOST 1048576: true; the input reads as it did. -/
def fnExactOutNextUptoRow : OpenClaim := { program := "ytejjggnchdldoaagreatdoor", sum := "16ea7c3417f3ba68a2b804833580ffc94e3ab6b1a9917167aa1e12650c6a55c9", func := "loop.example/g00480/laws.FnExactOutNext", spec := "fnExactOutNext", inPlace := ["internal/bytealg.IndexByteString", "internal/bytealg.IndexString", "internal/bytealg.CountString"], unfollowed := true, recurses := true, named := ["unicode/utf8.first", "unicode/utf8.acceptRanges", "internal/bytealg.MaxLen"], apart := false, laid := [("unicode/utf8.acceptRanges", laid_unicode_utf8_acceptRanges), ("unicode/utf8.first", laid_unicode_utf8_first)], narrowed := true }
def FnExactOutNextUptoSaid : Prop := fnExactOutNextUptoRow.holds Tryz.pinned (OpenSpec.upto fnExactOutNextSpec)

/-- 'laws.FnExactOutAck', WHERE WHAT IT READS IS OF BULK AT MOST 1048576: true; the input reads as it did. -/
def fnExactOutAckUptoRow : OpenClaim := { program := "ytejjggnchdldoaagreatdoor", sum := "16ea7c3417f3ba68a2b804833580ffc94e3ab6b1a9917167aa1e12650c6a55c9", func := "loop.example/g00480/laws.FnExactOutAck", spec := "fnExactOutAck", inPlace := ["internal/bytealg.IndexByteString", "internal/bytealg.IndexString", "internal/bytealg.CountString"], unfollowed := true, recurses := true, named := ["unicode/utf8.first", "unicode/utf8.acceptRanges", "internal/bytealg.MaxLen"], apart := false, laid := [("unicode/utf8.acceptRanges", laid_unicode_utf8_acceptRanges), ("unicode/utf8.first", laid_unicode_utf8_first)], narrowed := true }
def FnExactOutAckUptoSaid : Prop := fnExactOutAckUptoRow.holds Tryz.pinned (OpenSpec.upto fnExactOutAckSpec)

/-- 'laws.FnExactPutSess', WHERE WHAT IT READS IS OF BULK AT MOST 1048576: true; the input reads as it did. -/
def fnExactPutSessUptoRow : OpenClaim := { program := "ytejjggnchdldoaagreatdoor", sum := "16ea7c3417f3ba68a2b804833580ffc94e3ab6b1a9917167aa1e12650c6a55c9", func := "loop.example/g00480/laws.FnExactPutSess", spec := "fnExactPutSess", inPlace := ["slices.overlaps[loop.example/g00480/impl.Sess]", "internal/bytealg.IndexByteString", "internal/bytealg.IndexString", "internal/bytealg.CountString"], unfollowed := true, recurses := true, named := ["unicode/utf8.first", "unicode/utf8.acceptRanges", "internal/bytealg.MaxLen"], apart := false, laid := [("unicode/utf8.acceptRanges", laid_unicode_utf8_acceptRanges), ("unicode/utf8.first", laid_unicode_utf8_first)], narrowed := true }
def FnExactPutSessUptoSaid : Prop := fnExactPutSessUptoRow.holds Tryz.pinned (OpenSpec.upto fnExactPutSessSpec)

end Rows
end Go.Proofs.YtejjggnchdldoaaGreatDoor
