/-
  DERIVED. GIVEN WITH THE SEED: THE CARDS: each row of YtejjggnchdldoaaGreatDoorRows.lean that lists a variable, with what it lists TIED to the program's text (the seventh form; the later family's looks); each row that meets fmt, with fmt's text TOLD by the authors' own Lean function (tested against real Go, not proved from fmt's source: count such statements apart). THE CARD IS WHAT COUNTS. Prove the row's statement (the work); the ties are given (YtejjggnchdldoaaGreatDoorTie.lean); close each card by the builder's one call (the guide's Derived/Test/ToyasCard.lean, 'card_holds'). Laid BY PROGRAM, IN A SANDBOX (cutbox-door.mjs). By AI agents, Wed Nov 11 2026. No macro, syntax, notation, axiom, sorry.
-/
import Derived.Test.YtejjggnchdldoaaGreatDoorRows
import GoSem.ClaimSeven
namespace Go.Proofs.YtejjggnchdldoaaGreatDoor
namespace Rows

/-- THE TIED CARD OF 'laws.FnExactLeave'. -/
def fnExactLeaveCard : Claim7 := { stood := { row := fnExactLeaveRow, standIns := [], harness := (true, "0b981df1f78d83cf6eab563b0e01612db015e5c1bdfb88f173750d5b1c733910"), looks := false }, kinds := [], alts := [], laidByText := true, laidKinds := [.data, .pinned], laidTests := true, laidLooks := .later }
def FnExactLeaveCardSaid : Prop := Claim7.holds Tryz.pinned (.plain (OpenSpec.ofChange fnExactLeaveSpec)) fnExactLeaveCard

/-- THE TIED CARD OF 'laws.FnExactTake'. -/
def fnExactTakeCard : Claim7 := { stood := { row := fnExactTakeRow, standIns := [], harness := (true, "0b981df1f78d83cf6eab563b0e01612db015e5c1bdfb88f173750d5b1c733910"), looks := false }, kinds := [], alts := [], laidByText := true, laidKinds := [.data, .pinned], laidTests := true, laidLooks := .later }
def FnExactTakeCardSaid : Prop := Claim7.holds Tryz.pinned (.plain (OpenSpec.ofChange fnExactTakeSpec)) fnExactTakeCard

/-- THE TIED CARD OF 'laws.FnExactSessPush'. -/
def fnExactSessPushCard : Claim7 := { stood := { row := fnExactSessPushRow, standIns := [], harness := (true, "0b981df1f78d83cf6eab563b0e01612db015e5c1bdfb88f173750d5b1c733910"), looks := false }, kinds := [], alts := [], laidByText := true, laidKinds := [.data, .pinned], laidTests := true, laidLooks := .later }
def FnExactSessPushCardSaid : Prop := Claim7.holds Tryz.pinned (.plain (OpenSpec.ofChange fnExactSessPushSpec)) fnExactSessPushCard

/-- THE TIED CARD OF 'laws.FnExactOutAgain'. -/
def fnExactOutAgainCard : Claim7 := { stood := { row := fnExactOutAgainRow, standIns := [], harness := (true, "0b981df1f78d83cf6eab563b0e01612db015e5c1bdfb88f173750d5b1c733910"), looks := false }, kinds := [], alts := [], laidByText := true, laidKinds := [.data, .pinned], laidTests := true, laidLooks := .later }
def FnExactOutAgainCardSaid : Prop := Claim7.holds Tryz.pinned (.plain (OpenSpec.ofChange fnExactOutAgainSpec)) fnExactOutAgainCard

/-- THE TIED CARD OF 'laws.FnExactOutNext'. -/
def fnExactOutNextCard : Claim7 := { stood := { row := fnExactOutNextRow, standIns := [], harness := (true, "0b981df1f78d83cf6eab563b0e01612db015e5c1bdfb88f173750d5b1c733910"), looks := false }, kinds := [], alts := [], laidByText := true, laidKinds := [.data, .pinned], laidTests := true, laidLooks := .later }
def FnExactOutNextCardSaid : Prop := Claim7.holds Tryz.pinned (.plain (OpenSpec.ofChange fnExactOutNextSpec)) fnExactOutNextCard

/-- THE TIED CARD OF 'laws.FnExactOutAck'. -/
def fnExactOutAckCard : Claim7 := { stood := { row := fnExactOutAckRow, standIns := [], harness := (true, "0b981df1f78d83cf6eab563b0e01612db015e5c1bdfb88f173750d5b1c733910"), looks := false }, kinds := [], alts := [], laidByText := true, laidKinds := [.data, .pinned], laidTests := true, laidLooks := .later }
def FnExactOutAckCardSaid : Prop := Claim7.holds Tryz.pinned (.plain (OpenSpec.ofChange fnExactOutAckSpec)) fnExactOutAckCard

/-- THE TIED CARD OF 'laws.FnExactPutSess'. -/
def fnExactPutSessCard : Claim7 := { stood := { row := fnExactPutSessRow, standIns := [], harness := (true, "0b981df1f78d83cf6eab563b0e01612db015e5c1bdfb88f173750d5b1c733910"), looks := false }, kinds := [], alts := [], laidByText := true, laidKinds := [.data, .pinned], laidTests := true, laidLooks := .later }
def FnExactPutSessCardSaid : Prop := Claim7.holds Tryz.pinned (.plain (OpenSpec.ofChange fnExactPutSessSpec)) fnExactPutSessCard

/-- THE SECOND FORM's CARD OF 'laws.FnExactLeave'. -/
def fnExactLeaveUptoCard : Claim7 := { stood := { row := fnExactLeaveUptoRow, standIns := [], harness := (true, "0b981df1f78d83cf6eab563b0e01612db015e5c1bdfb88f173750d5b1c733910"), looks := false }, kinds := [], alts := [], laidByText := true, laidKinds := [.data, .pinned], laidTests := true, laidLooks := .later }
def FnExactLeaveUptoCardSaid : Prop := Claim7.holds Tryz.pinned (.plain (OpenSpec.upto fnExactLeaveSpec)) fnExactLeaveUptoCard

/-- THE SECOND FORM's CARD OF 'laws.FnExactTake'. -/
def fnExactTakeUptoCard : Claim7 := { stood := { row := fnExactTakeUptoRow, standIns := [], harness := (true, "0b981df1f78d83cf6eab563b0e01612db015e5c1bdfb88f173750d5b1c733910"), looks := false }, kinds := [], alts := [], laidByText := true, laidKinds := [.data, .pinned], laidTests := true, laidLooks := .later }
def FnExactTakeUptoCardSaid : Prop := Claim7.holds Tryz.pinned (.plain (OpenSpec.upto fnExactTakeSpec)) fnExactTakeUptoCard

/-- THE SECOND FORM's CARD OF 'laws.FnExactSessPush'. -/
def fnExactSessPushUptoCard : Claim7 := { stood := { row := fnExactSessPushUptoRow, standIns := [], harness := (true, "0b981df1f78d83cf6eab563b0e01612db015e5c1bdfb88f173750d5b1c733910"), looks := false }, kinds := [], alts := [], laidByText := true, laidKinds := [.data, .pinned], laidTests := true, laidLooks := .later }
def FnExactSessPushUptoCardSaid : Prop := Claim7.holds Tryz.pinned (.plain (OpenSpec.upto fnExactSessPushSpec)) fnExactSessPushUptoCard

/-- THE SECOND FORM's CARD OF 'laws.FnExactOutAgain'. -/
def fnExactOutAgainUptoCard : Claim7 := { stood := { row := fnExactOutAgainUptoRow, standIns := [], harness := (true, "0b981df1f78d83cf6eab563b0e01612db015e5c1bdfb88f173750d5b1c733910"), looks := false }, kinds := [], alts := [], laidByText := true, laidKinds := [.data, .pinned], laidTests := true, laidLooks := .later }
def FnExactOutAgainUptoCardSaid : Prop := Claim7.holds Tryz.pinned (.plain (OpenSpec.upto fnExactOutAgainSpec)) fnExactOutAgainUptoCard

/-- THE SECOND FORM's CARD OF 'laws.FnExactOutNext'. -/
def fnExactOutNextUptoCard : Claim7 := { stood := { row := fnExactOutNextUptoRow, standIns := [], harness := (true, "0b981df1f78d83cf6eab563b0e01612db015e5c1bdfb88f173750d5b1c733910"), looks := false }, kinds := [], alts := [], laidByText := true, laidKinds := [.data, .pinned], laidTests := true, laidLooks := .later }
def FnExactOutNextUptoCardSaid : Prop := Claim7.holds Tryz.pinned (.plain (OpenSpec.upto fnExactOutNextSpec)) fnExactOutNextUptoCard

/-- THE SECOND FORM's CARD OF 'laws.FnExactOutAck'. -/
def fnExactOutAckUptoCard : Claim7 := { stood := { row := fnExactOutAckUptoRow, standIns := [], harness := (true, "0b981df1f78d83cf6eab563b0e01612db015e5c1bdfb88f173750d5b1c733910"), looks := false }, kinds := [], alts := [], laidByText := true, laidKinds := [.data, .pinned], laidTests := true, laidLooks := .later }
def FnExactOutAckUptoCardSaid : Prop := Claim7.holds Tryz.pinned (.plain (OpenSpec.upto fnExactOutAckSpec)) fnExactOutAckUptoCard

/-- THE SECOND FORM's CARD OF 'laws.FnExactPutSess'. -/
def fnExactPutSessUptoCard : Claim7 := { stood := { row := fnExactPutSessUptoRow, standIns := [], harness := (true, "0b981df1f78d83cf6eab563b0e01612db015e5c1bdfb88f173750d5b1c733910"), looks := false }, kinds := [], alts := [], laidByText := true, laidKinds := [.data, .pinned], laidTests := true, laidLooks := .later }
def FnExactPutSessUptoCardSaid : Prop := Claim7.holds Tryz.pinned (.plain (OpenSpec.upto fnExactPutSessSpec)) fnExactPutSessUptoCard
end Rows
end Go.Proofs.YtejjggnchdldoaaGreatDoor
