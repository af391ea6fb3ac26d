/-
  DERIVED. GIVEN WITH THE SEED: THE CARDS: each row of YtnkelipioodhjaaDoorRows.lean that lists a variable, with what it lists TIED to the program's text (the seventh form; the later family's looks); each row that meets fmt, with fmt's text TOLD by the authors' own Lean function (tested against real Go, not proved from fmt's source: count such statements apart). THE CARD IS WHAT COUNTS. Prove the row's statement (the work); the ties are given (YtnkelipioodhjaaDoorTie.lean); close each card by the builder's one call (the guide's Derived/Test/ToyasCard.lean, 'card_holds'). Laid BY PROGRAM, IN A SANDBOX (cutbox-door.mjs). By AI agents, Wed Nov 11 2026. No macro, syntax, notation, axiom, sorry.
-/
import Derived.Test.YtnkelipioodhjaaDoorRows
import GoSem.ClaimSeven
namespace Go.Proofs.YtnkelipioodhjaaDoor
namespace Rows

/-- THE TIED CARD OF 'laws.FnExactMsgOk'. -/
def fnExactMsgOkCard : Claim7 := { stood := { row := fnExactMsgOkRow, standIns := [], harness := (true, "46ca8b6b1705a54937410930911d03a38e2e2f37b3403d14398a2167678f7615"), looks := false }, kinds := [], alts := [], laidByText := true, laidKinds := [.data, .pinned], laidTests := true, laidLooks := .later }
def FnExactMsgOkCardSaid : Prop := Claim7.holds Tryd.pinned (.plain (OpenSpec.ofChange fnExactMsgOkSpec)) fnExactMsgOkCard

/-- THE TIED CARD OF 'laws.FnExactQueueOk'. -/
def fnExactQueueOkCard : Claim7 := { stood := { row := fnExactQueueOkRow, standIns := [], harness := (true, "46ca8b6b1705a54937410930911d03a38e2e2f37b3403d14398a2167678f7615"), looks := false }, kinds := [], alts := [], laidByText := true, laidKinds := [.data, .pinned], laidTests := true, laidLooks := .later }
def FnExactQueueOkCardSaid : Prop := Claim7.holds Tryd.pinned (.plain (OpenSpec.ofChange fnExactQueueOkSpec)) fnExactQueueOkCard

/-- THE TIED CARD OF 'laws.FnExactDeedOk'. -/
def fnExactDeedOkCard : Claim7 := { stood := { row := fnExactDeedOkRow, standIns := [], harness := (true, "46ca8b6b1705a54937410930911d03a38e2e2f37b3403d14398a2167678f7615"), looks := false }, kinds := [], alts := [], laidByText := true, laidKinds := [.data, .pinned], laidTests := true, laidLooks := .later }
def FnExactDeedOkCardSaid : Prop := Claim7.holds Tryd.pinned (.plain (OpenSpec.ofChange fnExactDeedOkSpec)) fnExactDeedOkCard

/-- THE TIED CARD OF 'laws.FnDeeds'. -/
def fnDeedsCard : Claim7 := { stood := { row := fnDeedsRow, standIns := [], harness := (true, "46ca8b6b1705a54937410930911d03a38e2e2f37b3403d14398a2167678f7615"), looks := false }, kinds := [], alts := [], laidByText := true, laidKinds := [.data, .pinned], laidTests := true, laidLooks := .later }
def FnDeedsCardSaid : Prop := Claim7.holds Tryd.pinned (.plain (OpenSpec.ofChange fnDeedsSpec)) fnDeedsCard

/-- THE SECOND FORM's CARD OF 'laws.FnExactMsgOk'. -/
def fnExactMsgOkUptoCard : Claim7 := { stood := { row := fnExactMsgOkUptoRow, standIns := [], harness := (true, "46ca8b6b1705a54937410930911d03a38e2e2f37b3403d14398a2167678f7615"), looks := false }, kinds := [], alts := [], laidByText := true, laidKinds := [.data, .pinned], laidTests := true, laidLooks := .later }
def FnExactMsgOkUptoCardSaid : Prop := Claim7.holds Tryd.pinned (.plain (OpenSpec.upto fnExactMsgOkSpec)) fnExactMsgOkUptoCard

/-- THE SECOND FORM's CARD OF 'laws.FnExactQueueOk'. -/
def fnExactQueueOkUptoCard : Claim7 := { stood := { row := fnExactQueueOkUptoRow, standIns := [], harness := (true, "46ca8b6b1705a54937410930911d03a38e2e2f37b3403d14398a2167678f7615"), looks := false }, kinds := [], alts := [], laidByText := true, laidKinds := [.data, .pinned], laidTests := true, laidLooks := .later }
def FnExactQueueOkUptoCardSaid : Prop := Claim7.holds Tryd.pinned (.plain (OpenSpec.upto fnExactQueueOkSpec)) fnExactQueueOkUptoCard

/-- THE SECOND FORM's CARD OF 'laws.FnExactDeedOk'. -/
def fnExactDeedOkUptoCard : Claim7 := { stood := { row := fnExactDeedOkUptoRow, standIns := [], harness := (true, "46ca8b6b1705a54937410930911d03a38e2e2f37b3403d14398a2167678f7615"), looks := false }, kinds := [], alts := [], laidByText := true, laidKinds := [.data, .pinned], laidTests := true, laidLooks := .later }
def FnExactDeedOkUptoCardSaid : Prop := Claim7.holds Tryd.pinned (.plain (OpenSpec.upto fnExactDeedOkSpec)) fnExactDeedOkUptoCard

/-- THE SECOND FORM's CARD OF 'laws.FnDeeds'. -/
def fnDeedsUptoCard : Claim7 := { stood := { row := fnDeedsUptoRow, standIns := [], harness := (true, "46ca8b6b1705a54937410930911d03a38e2e2f37b3403d14398a2167678f7615"), looks := false }, kinds := [], alts := [], laidByText := true, laidKinds := [.data, .pinned], laidTests := true, laidLooks := .later }
def FnDeedsUptoCardSaid : Prop := Claim7.holds Tryd.pinned (.plain (OpenSpec.upto fnDeedsSpec)) fnDeedsUptoCard
end Rows
end Go.Proofs.YtnkelipioodhjaaDoor
