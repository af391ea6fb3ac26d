/-
  NARROWER THAN 'FOR EVERY INPUT', by the rows' own cells (each row's printed sentence says how): FnExactDue: laid · FnExactFeedAll: laid · FnExactBufOk: laid · FnExactGetPacket: laid · FnExactReadAll: laid · FnExactFeed: laid · FnExactConnOk: laid.
  DERIVED. THE GIVEN ROWS OF THIS SEAT. 7 by the template 'for every input the law returns true; each argument reads behind the call as it read before'; 0 by the template 'total and deterministic' (their statements: YtlcpigdmekgajaaGreatDoorTotals.lean).
  GIVEN WITH THE SEED: the statements are not yours to turn. If you find one false, say at which input.
  Laid BY PROGRAM, IN A SANDBOX (cutbox-rows.mjs): the forced cells as the released guide's own fill.sh prints them over the translation e859cb0f7a695d5b… (all of the seat's roots in one cut). By AI agents, Wed Nov 11 2026. No macro, syntax, notation, axiom, sorry.
-/
import Derived.Test.YtlcpigdmekgajaaGreatDoorChecked
import GoSem.PinnedTables
import GoSem.Claim
import GoSem.ClaimJoined
import GoSem.ClaimMapViews
import Derived.JoinedTies
import Derived.KernelRfl
namespace Go.Proofs.YtlcpigdmekgajaaGreatDoor
/- THE CELL 'sum', in the pinned program and in every row, IS THE sha256 OF THE DUMP (.gsa) THAT YtlcpigdmekgajaaGreatDoorProg.lean LOADS. Nothing in Lean hashes anything: it is a label: what it is worth is what the hold of that sum in a sandbox is worth. -/
noncomputable def Tryz.pinned : Pinned := { name := "ytlcpigdmekgajaagreatdoor", sum := "e859cb0f7a695d5bed168a36da8db64c1d7e42e152c8e33d5a9fbc15b96bef25", checked := Tryz.checked }
namespace Rows
def none {H : Type} : Left H := { results := [], args := [] }

/- WHAT THE LISTED PACKAGE-LEVEL VARIABLES READ AS WHEN THE CALL BEGINS. Each datum BY PROGRAM (the guide's laid-datum.mjs) off the statement by which the dump's own 'gosem.cut.vars' lays the variable. In a bare row this is a premise. The card (YtlcpigdmekgajaaGreatDoorCards.lean) ties it to the program's text. -/
def laid_unicode_utf8_acceptRanges {H : Type} : DataW H := .agg [.agg [.lit (.int .u8 128), .lit (.int .u8 191)], .agg [.lit (.int .u8 160), .lit (.int .u8 191)], .agg [.lit (.int .u8 128), .lit (.int .u8 159)], .agg [.lit (.int .u8 144), .lit (.int .u8 191)], .agg [.lit (.int .u8 128), .lit (.int .u8 143)], .agg [.lit (.int .u8 0), .lit (.int .u8 0)], .agg [.lit (.int .u8 0), .lit (.int .u8 0)], .agg [.lit (.int .u8 0), .lit (.int .u8 0)], .agg [.lit (.int .u8 0), .lit (.int .u8 0)], .agg [.lit (.int .u8 0), .lit (.int .u8 0)], .agg [.lit (.int .u8 0), .lit (.int .u8 0)], .agg [.lit (.int .u8 0), .lit (.int .u8 0)], .agg [.lit (.int .u8 0), .lit (.int .u8 0)], .agg [.lit (.int .u8 0), .lit (.int .u8 0)], .agg [.lit (.int .u8 0), .lit (.int .u8 0)], .agg [.lit (.int .u8 0), .lit (.int .u8 0)]]
/-- One of Go's own tables, pinned by name: the form's constant. -/
def laid_unicode_utf8_first : DataW Unit := Go.Pinned.utf8First

/-- 'laws.FnExactDue': WHATEVER THE INPUT: true; the input reads as it did. -/
def fnExactDueSpec : ChangeSpec := { name := "fnExactDue", fn := fun _ => fun
  | [d1, d2] => { results := [.lit (.bool true)], args := [d1, d2] }
  | _ => none }
def fnExactDueRow : OpenClaim := { program := "ytlcpigdmekgajaagreatdoor", sum := "e859cb0f7a695d5bed168a36da8db64c1d7e42e152c8e33d5a9fbc15b96bef25", func := "loop.example/g00480/laws.FnExactDue", spec := "fnExactDue", inPlace := ["internal/bytealg.IndexByteString", "internal/bytealg.IndexString", "internal/bytealg.CountString"], named := ["unicode/utf8.first", "unicode/utf8.acceptRanges", "internal/bytealg.MaxLen"], apart := false, laid := [("unicode/utf8.acceptRanges", laid_unicode_utf8_acceptRanges), ("unicode/utf8.first", laid_unicode_utf8_first)] }
def FnExactDueSaid : Prop := fnExactDueRow.holds Tryz.pinned (OpenSpec.ofChange fnExactDueSpec)

/-- ITS FALSE NEIGHBOUR: 'it returns false'. Refute it at one input. -/
def fnExactDueWrong : ChangeSpec := { name := "fnExactDue", fn := fun _ => fun
  | [d1, d2] => { results := [.lit (.bool false)], args := [d1, d2] }
  | _ => none }
def FnExactDueWrongFalsely : Prop := fnExactDueRow.holds Tryz.pinned (OpenSpec.ofChange fnExactDueWrong)

/-- 'laws.FnExactFeedAll': WHATEVER THE INPUT: true; the input reads as it did. -/
def fnExactFeedAllSpec : ChangeSpec := { name := "fnExactFeedAll", fn := fun _ => fun
  | [d1, d2] => { results := [.lit (.bool true)], args := [d1, d2] }
  | _ => none }
def fnExactFeedAllRow : OpenClaim := { program := "ytlcpigdmekgajaagreatdoor", sum := "e859cb0f7a695d5bed168a36da8db64c1d7e42e152c8e33d5a9fbc15b96bef25", func := "loop.example/g00480/laws.FnExactFeedAll", spec := "fnExactFeedAll", inPlace := ["internal/bytealg.IndexByteString", "internal/bytealg.IndexString", "internal/bytealg.CountString"], named := ["unicode/utf8.first", "unicode/utf8.acceptRanges", "internal/bytealg.MaxLen"], apart := false, laid := [("unicode/utf8.acceptRanges", laid_unicode_utf8_acceptRanges), ("unicode/utf8.first", laid_unicode_utf8_first)] }
def FnExactFeedAllSaid : Prop := fnExactFeedAllRow.holds Tryz.pinned (OpenSpec.ofChange fnExactFeedAllSpec)

/-- ITS FALSE NEIGHBOUR: 'it returns false'. Refute it at one input. -/
def fnExactFeedAllWrong : ChangeSpec := { name := "fnExactFeedAll", fn := fun _ => fun
  | [d1, d2] => { results := [.lit (.bool false)], args := [d1, d2] }
  | _ => none }
def FnExactFeedAllWrongFalsely : Prop := fnExactFeedAllRow.holds Tryz.pinned (OpenSpec.ofChange fnExactFeedAllWrong)

/-- 'laws.FnExactBufOk': WHATEVER THE INPUT: true; the input reads as it did. -/
def fnExactBufOkSpec : ChangeSpec := { name := "fnExactBufOk", fn := fun _ => fun
  | [d] => { results := [.lit (.bool true)], args := [d] }
  | _ => none }
def fnExactBufOkRow : OpenClaim := { program := "ytlcpigdmekgajaagreatdoor", sum := "e859cb0f7a695d5bed168a36da8db64c1d7e42e152c8e33d5a9fbc15b96bef25", func := "loop.example/g00480/laws.FnExactBufOk", spec := "fnExactBufOk", inPlace := ["internal/bytealg.IndexByteString", "internal/bytealg.IndexString", "internal/bytealg.CountString"], named := ["unicode/utf8.first", "unicode/utf8.acceptRanges", "internal/bytealg.MaxLen"], apart := false, laid := [("unicode/utf8.acceptRanges", laid_unicode_utf8_acceptRanges), ("unicode/utf8.first", laid_unicode_utf8_first)] }
def FnExactBufOkSaid : Prop := fnExactBufOkRow.holds Tryz.pinned (OpenSpec.ofChange fnExactBufOkSpec)

/-- ITS FALSE NEIGHBOUR: 'it returns false'. Refute it at one input. -/
def fnExactBufOkWrong : ChangeSpec := { name := "fnExactBufOk", fn := fun _ => fun
  | [d] => { results := [.lit (.bool false)], args := [d] }
  | _ => none }
def FnExactBufOkWrongFalsely : Prop := fnExactBufOkRow.holds Tryz.pinned (OpenSpec.ofChange fnExactBufOkWrong)

/-- 'laws.FnExactGetPacket': WHATEVER THE INPUT: true; the input reads as it did. -/
def fnExactGetPacketSpec : ChangeSpec := { name := "fnExactGetPacket", fn := fun _ => fun
  | [d] => { results := [.lit (.bool true)], args := [d] }
  | _ => none }
def fnExactGetPacketRow : OpenClaim := { program := "ytlcpigdmekgajaagreatdoor", sum := "e859cb0f7a695d5bed168a36da8db64c1d7e42e152c8e33d5a9fbc15b96bef25", func := "loop.example/g00480/laws.FnExactGetPacket", spec := "fnExactGetPacket", inPlace := ["internal/bytealg.IndexByteString", "internal/bytealg.IndexString", "internal/bytealg.CountString"], named := ["unicode/utf8.first", "unicode/utf8.acceptRanges", "internal/bytealg.MaxLen"], apart := false, laid := [("unicode/utf8.acceptRanges", laid_unicode_utf8_acceptRanges), ("unicode/utf8.first", laid_unicode_utf8_first)] }
def FnExactGetPacketSaid : Prop := fnExactGetPacketRow.holds Tryz.pinned (OpenSpec.ofChange fnExactGetPacketSpec)

/-- ITS FALSE NEIGHBOUR: 'it returns false'. Refute it at one input. -/
def fnExactGetPacketWrong : ChangeSpec := { name := "fnExactGetPacket", fn := fun _ => fun
  | [d] => { results := [.lit (.bool false)], args := [d] }
  | _ => none }
def FnExactGetPacketWrongFalsely : Prop := fnExactGetPacketRow.holds Tryz.pinned (OpenSpec.ofChange fnExactGetPacketWrong)

/-- 'laws.FnExactReadAll': WHATEVER THE INPUT: true; the input reads as it did. -/
def fnExactReadAllSpec : ChangeSpec := { name := "fnExactReadAll", fn := fun _ => fun
  | [d] => { results := [.lit (.bool true)], args := [d] }
  | _ => none }
def fnExactReadAllRow : OpenClaim := { program := "ytlcpigdmekgajaagreatdoor", sum := "e859cb0f7a695d5bed168a36da8db64c1d7e42e152c8e33d5a9fbc15b96bef25", func := "loop.example/g00480/laws.FnExactReadAll", spec := "fnExactReadAll", inPlace := ["internal/bytealg.IndexByteString", "internal/bytealg.IndexString", "internal/bytealg.CountString"], named := ["unicode/utf8.first", "unicode/utf8.acceptRanges", "internal/bytealg.MaxLen"], apart := false, laid := [("unicode/utf8.acceptRanges", laid_unicode_utf8_acceptRanges), ("unicode/utf8.first", laid_unicode_utf8_first)] }
def FnExactReadAllSaid : Prop := fnExactReadAllRow.holds Tryz.pinned (OpenSpec.ofChange fnExactReadAllSpec)

/-- ITS FALSE NEIGHBOUR: 'it returns false'. Refute it at one input. -/
def fnExactReadAllWrong : ChangeSpec := { name := "fnExactReadAll", fn := fun _ => fun
  | [d] => { results := [.lit (.bool false)], args := [d] }
  | _ => none }
def FnExactReadAllWrongFalsely : Prop := fnExactReadAllRow.holds Tryz.pinned (OpenSpec.ofChange fnExactReadAllWrong)

/-- 'laws.FnExactFeed': WHATEVER THE INPUT: true; the input reads as it did. -/
def fnExactFeedSpec : ChangeSpec := { name := "fnExactFeed", fn := fun _ => fun
  | [d1, d2] => { results := [.lit (.bool true)], args := [d1, d2] }
  | _ => none }
def fnExactFeedRow : OpenClaim := { program := "ytlcpigdmekgajaagreatdoor", sum := "e859cb0f7a695d5bed168a36da8db64c1d7e42e152c8e33d5a9fbc15b96bef25", func := "loop.example/g00480/laws.FnExactFeed", spec := "fnExactFeed", inPlace := ["internal/bytealg.IndexByteString", "internal/bytealg.IndexString", "internal/bytealg.CountString"], named := ["unicode/utf8.first", "unicode/utf8.acceptRanges", "internal/bytealg.MaxLen"], apart := false, laid := [("unicode/utf8.acceptRanges", laid_unicode_utf8_acceptRanges), ("unicode/utf8.first", laid_unicode_utf8_first)] }
def FnExactFeedSaid : Prop := fnExactFeedRow.holds Tryz.pinned (OpenSpec.ofChange fnExactFeedSpec)

/-- ITS FALSE NEIGHBOUR: 'it returns false'. Refute it at one input. -/
def fnExactFeedWrong : ChangeSpec := { name := "fnExactFeed", fn := fun _ => fun
  | [d1, d2] => { results := [.lit (.bool false)], args := [d1, d2] }
  | _ => none }
def FnExactFeedWrongFalsely : Prop := fnExactFeedRow.holds Tryz.pinned (OpenSpec.ofChange fnExactFeedWrong)

/-- 'laws.FnExactConnOk': WHATEVER THE INPUT: true; the input reads as it did. -/
def fnExactConnOkSpec : ChangeSpec := { name := "fnExactConnOk", fn := fun _ => fun
  | [d] => { results := [.lit (.bool true)], args := [d] }
  | _ => none }
def fnExactConnOkRow : OpenClaim := { program := "ytlcpigdmekgajaagreatdoor", sum := "e859cb0f7a695d5bed168a36da8db64c1d7e42e152c8e33d5a9fbc15b96bef25", func := "loop.example/g00480/laws.FnExactConnOk", spec := "fnExactConnOk", inPlace := ["internal/bytealg.IndexByteString", "internal/bytealg.IndexString", "internal/bytealg.CountString"], named := ["unicode/utf8.first", "unicode/utf8.acceptRanges", "internal/bytealg.MaxLen"], apart := false, laid := [("unicode/utf8.acceptRanges", laid_unicode_utf8_acceptRanges), ("unicode/utf8.first", laid_unicode_utf8_first)] }
def FnExactConnOkSaid : Prop := fnExactConnOkRow.holds Tryz.pinned (OpenSpec.ofChange fnExactConnOkSpec)

/-- ITS FALSE NEIGHBOUR: 'it returns false'. Refute it at one input. -/
def fnExactConnOkWrong : ChangeSpec := { name := "fnExactConnOk", fn := fun _ => fun
  | [d] => { results := [.lit (.bool false)], args := [d] }
  | _ => none }
def FnExactConnOkWrongFalsely : Prop := fnExactConnOkRow.holds Tryz.pinned (OpenSpec.ofChange fnExactConnOkWrong)

/- THE SECOND FORM. 'bulk': how many values and letters a reading holds, each counted each time it is reached (what is shared counts as often as it is met; a slice's spare places count too). A statement '..UptoSaid' is the law's where the arguments, and the package variables that the reading takes, are together of bulk at most 1048576: NARROWER than '..Said'. Prove '..Said' where nothing that the law and all that it calls make is longer than what came in: it says more and counts as full. Else prove '..UptoSaid'. A law counts once. -/
mutual
def uptoBulk {H : Type} : DataW H → Nat
  | .lit (.string bytes) => bytes.length + 1
  | .lit _ => 1
  | .nil => 1
  | .ptr d => uptoBulk d + 1
  | .slice elems spare => uptoBulkAll elems + uptoBulkAll spare + 1
  | .agg parts => uptoBulkAll parts + 1
  | .iface _ d => uptoBulk d + 1
  | .map entries => uptoBulkEntries entries + 1
  | .held _ => 1
def uptoBulkAll {H : Type} : List (DataW H) → Nat
  | [] => 0
  | d :: r => uptoBulk d + uptoBulkAll r
def uptoBulkEntries {H : Type} : List (Lit × DataW H) → Nat
  | [] => 0
  | x :: r => uptoBulkEntry x + uptoBulkEntries r
def uptoBulkEntry {H : Type} : Lit × DataW H → Nat
  | (.string bytes, d) => bytes.length + uptoBulk d + 1
  | (_, d) => uptoBulk d + 1
 end
def uptoSmall : (H : Type) → List (DataW H) → Bool := fun _ ds => decide (uptoBulkAll ds ≤ 1048576)
def OpenSpec.upto (s : _root_.Go.ChangeSpec) : _root_.Go.OpenSpec := { _root_.Go.OpenSpec.ofChange s with cond := some uptoSmall }

/-- 'laws.FnExactDue', WHERE WHAT IT READS IS OF BULK AT MOST 1048576: true; the input reads as it did. -/
def fnExactDueUptoRow : OpenClaim := { program := "ytlcpigdmekgajaagreatdoor", sum := "e859cb0f7a695d5bed168a36da8db64c1d7e42e152c8e33d5a9fbc15b96bef25", func := "loop.example/g00480/laws.FnExactDue", spec := "fnExactDue", inPlace := ["internal/bytealg.IndexByteString", "internal/bytealg.IndexString", "internal/bytealg.CountString"], named := ["unicode/utf8.first", "unicode/utf8.acceptRanges", "internal/bytealg.MaxLen"], apart := false, laid := [("unicode/utf8.acceptRanges", laid_unicode_utf8_acceptRanges), ("unicode/utf8.first", laid_unicode_utf8_first)], narrowed := true }
def FnExactDueUptoSaid : Prop := fnExactDueUptoRow.holds Tryz.pinned (OpenSpec.upto fnExactDueSpec)

/-- 'laws.FnExactFeedAll', WHERE WHAT IT READS IS OF BULK AT MOST 1048576: true; the input reads as it did. -/
def fnExactFeedAllUptoRow : OpenClaim := { program := "ytlcpigdmekgajaagreatdoor", sum := "e859cb0f7a695d5bed168a36da8db64c1d7e42e152c8e33d5a9fbc15b96bef25", func := "loop.example/g00480/laws.FnExactFeedAll", spec := "fnExactFeedAll", inPlace := ["internal/bytealg.IndexByteString", "internal/bytealg.IndexString", "internal/bytealg.CountString"], named := ["unicode/utf8.first", "unicode/utf8.acceptRanges", "internal/bytealg.MaxLen"], apart := false, laid := [("unicode/utf8.acceptRanges", laid_unicode_utf8_acceptRanges), ("unicode/utf8.first", laid_unicode_utf8_first)], narrowed := true }
def FnExactFeedAllUptoSaid : Prop := fnExactFeedAllUptoRow.holds Tryz.pinned (OpenSpec.upto fnExactFeedAllSpec)

/-- 'laws.FnExactBufOk', WHERE WHAT IT READS IS OF BULK AT MOST 1048576: true; the input reads as it did. -/
def fnExactBufOkUptoRow : OpenClaim := { program := "ytlcpigdmekgajaagreatdoor", sum := "e859cb0f7a695d5bed168a36da8db64c1d7e42e152c8e33d5a9fbc15b96bef25", func := "loop.example/g00480/laws.FnExactBufOk", spec := "fnExactBufOk", inPlace := ["internal/bytealg.IndexByteString", "internal/bytealg.IndexString", "internal/bytealg.CountString"], named := ["unicode/utf8.first", "unicode/utf8.acceptRanges", "internal/bytealg.MaxLen"], apart := false, laid := [("unicode/utf8.acceptRanges", laid_unicode_utf8_acceptRanges), ("unicode/utf8.first", laid_unicode_utf8_first)], narrowed := true }
def FnExactBufOkUptoSaid : Prop := fnExactBufOkUptoRow.holds Tryz.pinned (OpenSpec.upto fnExactBufOkSpec)

/-- 'laws.FnExactGetPacket', WHERE WHAT IT READS IS OF BULK AT MOST 1048576: true; the input reads as it did. -/
def fnExactGetPacketUptoRow : OpenClaim := { program := "ytlcpigdmekgajaagreatdoor", sum := "e859cb0f7a695d5bed168a36da8db64c1d7e42e152c8e33d5a9fbc15b96bef25", func := "loop.example/g00480/laws.FnExactGetPacket", spec := "fnExactGetPacket", inPlace := ["internal/bytealg.IndexByteString", "internal/bytealg.IndexString", "internal/bytealg.CountString"], named := ["unicode/utf8.first", "unicode/utf8.acceptRanges", "internal/bytealg.MaxLen"], apart := false, laid := [("unicode/utf8.acceptRanges", laid_unicode_utf8_acceptRanges), ("unicode/utf8.first", laid_unicode_utf8_first)], narrowed := true }
def FnExactGetPacketUptoSaid : Prop := fnExactGetPacketUptoRow.holds Tryz.pinned (OpenSpec.upto fnExactGetPacketSpec)

/-- 'laws.FnExactReadAll', WHERE WHAT IT READS IS OF BULK AT MOST 1048576: true; the input reads as it did. -/
def fnExactReadAllUptoRow : OpenClaim := { program := "ytlcpigdmekgajaagreatdoor", sum := "e859cb0f7a695d5bed168a36da8db64c1d7e42e152c8e33d5a9fbc15b96bef25", func := "loop.example/g00480/laws.FnExactReadAll", spec := "fnExactReadAll", inPlace := ["internal/bytealg.IndexByteString", "internal/bytealg.IndexString", "internal/bytealg.CountString"], named := ["unicode/utf8.first", "unicode/utf8.acceptRanges", "internal/bytealg.MaxLen"], apart := false, laid := [("unicode/utf8.acceptRanges", laid_unicode_utf8_acceptRanges), ("unicode/utf8.first", laid_unicode_utf8_first)], narrowed := true }
def FnExactReadAllUptoSaid : Prop := fnExactReadAllUptoRow.holds Tryz.pinned (OpenSpec.upto fnExactReadAllSpec)

/-- 'laws.FnExactFeed', WHERE WHAT IT READS IS OF BULK AT MOST 1048576: true; the input reads as it did. -/
def fnExactFeedUptoRow : OpenClaim := { program := "ytlcpigdmekgajaagreatdoor", sum := "e859cb0f7a695d5bed168a36da8db64c1d7e42e152c8e33d5a9fbc15b96bef25", func := "loop.example/g00480/laws.FnExactFeed", spec := "fnExactFeed", inPlace := ["internal/bytealg.IndexByteString", "internal/bytealg.IndexString", "internal/bytealg.CountString"], named := ["unicode/utf8.first", "unicode/utf8.acceptRanges", "internal/bytealg.MaxLen"], apart := false, laid := [("unicode/utf8.acceptRanges", laid_unicode_utf8_acceptRanges), ("unicode/utf8.first", laid_unicode_utf8_first)], narrowed := true }
def FnExactFeedUptoSaid : Prop := fnExactFeedUptoRow.holds Tryz.pinned (OpenSpec.upto fnExactFeedSpec)

/-- 'laws.FnExactConnOk', WHERE WHAT IT READS IS OF BULK AT MOST 1048576: true; the input reads as it did. -/
def fnExactConnOkUptoRow : OpenClaim := { program := "ytlcpigdmekgajaagreatdoor", sum := "e859cb0f7a695d5bed168a36da8db64c1d7e42e152c8e33d5a9fbc15b96bef25", func := "loop.example/g00480/laws.FnExactConnOk", spec := "fnExactConnOk", inPlace := ["internal/bytealg.IndexByteString", "internal/bytealg.IndexString", "internal/bytealg.CountString"], named := ["unicode/utf8.first", "unicode/utf8.acceptRanges", "internal/bytealg.MaxLen"], apart := false, laid := [("unicode/utf8.acceptRanges", laid_unicode_utf8_acceptRanges), ("unicode/utf8.first", laid_unicode_utf8_first)], narrowed := true }
def FnExactConnOkUptoSaid : Prop := fnExactConnOkUptoRow.holds Tryz.pinned (OpenSpec.upto fnExactConnOkSpec)

end Rows
end Go.Proofs.YtlcpigdmekgajaaGreatDoor
