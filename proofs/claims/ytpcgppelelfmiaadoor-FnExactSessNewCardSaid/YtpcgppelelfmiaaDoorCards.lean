/-
  DERIVED. GIVEN WITH THE SEED: THE CARDS: each row of YtpcgppelelfmiaaDoorRows.lean that lists a variable, with what it lists TIED to the program's text (the seventh form; the later family's looks); each row that meets fmt, with fmt's text TOLD by the authors' own Lean function (tested against real Go, not proved from fmt's source: count such statements apart). THE CARD IS WHAT COUNTS. Prove the row's statement (the work); the ties are given (YtpcgppelelfmiaaDoorTie.lean); close each card by the builder's one call (the guide's Derived/Test/ToyasCard.lean, 'card_holds'). Laid BY PROGRAM, IN A SANDBOX (cutbox-door.mjs). By AI agents, Wed Nov 11 2026. No macro, syntax, notation, axiom, sorry.
-/
import Derived.Test.YtpcgppelelfmiaaDoorRows
import GoSem.ClaimSeven
namespace Go.Proofs.YtpcgppelelfmiaaDoor
namespace Rows

/-- THE TIED CARD OF 'laws.FnExactMsgOk'. -/
def fnExactMsgOkCard : Claim7 := { stood := { row := fnExactMsgOkRow, standIns := [], harness := (true, "c84ce17db33febd21c2827f1e7d13c8175474d27014ac2792a825cf7931b1ffb"), looks := false }, kinds := [], alts := [], laidByText := true, laidKinds := [.data, .pinned], laidTests := true, laidLooks := .later }
def FnExactMsgOkCardSaid : Prop := Claim7.holds Tryd.pinned (.plain (OpenSpec.ofChange fnExactMsgOkSpec)) fnExactMsgOkCard

/-- THE TIED CARD OF 'laws.FnExactQueueOk'. -/
def fnExactQueueOkCard : Claim7 := { stood := { row := fnExactQueueOkRow, standIns := [], harness := (true, "c84ce17db33febd21c2827f1e7d13c8175474d27014ac2792a825cf7931b1ffb"), looks := false }, kinds := [], alts := [], laidByText := true, laidKinds := [.data, .pinned], laidTests := true, laidLooks := .later }
def FnExactQueueOkCardSaid : Prop := Claim7.holds Tryd.pinned (.plain (OpenSpec.ofChange fnExactQueueOkSpec)) fnExactQueueOkCard

/-- THE TIED CARD OF 'laws.FnExactOutOk'. -/
def fnExactOutOkCard : Claim7 := { stood := { row := fnExactOutOkRow, standIns := [], harness := (true, "c84ce17db33febd21c2827f1e7d13c8175474d27014ac2792a825cf7931b1ffb"), looks := false }, kinds := [], alts := [], laidByText := true, laidKinds := [.data, .pinned], laidTests := true, laidLooks := .later }
def FnExactOutOkCardSaid : Prop := Claim7.holds Tryd.pinned (.plain (OpenSpec.ofChange fnExactOutOkSpec)) fnExactOutOkCard

/-- THE TIED CARD OF 'laws.FnExactOutReady'. -/
def fnExactOutReadyCard : Claim7 := { stood := { row := fnExactOutReadyRow, standIns := [], harness := (true, "c84ce17db33febd21c2827f1e7d13c8175474d27014ac2792a825cf7931b1ffb"), looks := false }, kinds := [], alts := [], laidByText := true, laidKinds := [.data, .pinned], laidTests := true, laidLooks := .later }
def FnExactOutReadyCardSaid : Prop := Claim7.holds Tryd.pinned (.plain (OpenSpec.ofChange fnExactOutReadySpec)) fnExactOutReadyCard

/-- THE TIED CARD OF 'laws.FnExactSessOk'. -/
def fnExactSessOkCard : Claim7 := { stood := { row := fnExactSessOkRow, standIns := [], harness := (true, "c84ce17db33febd21c2827f1e7d13c8175474d27014ac2792a825cf7931b1ffb"), looks := false }, kinds := [], alts := [], laidByText := true, laidKinds := [.data, .pinned], laidTests := true, laidLooks := .later }
def FnExactSessOkCardSaid : Prop := Claim7.holds Tryd.pinned (.plain (OpenSpec.ofChange fnExactSessOkSpec)) fnExactSessOkCard

/-- THE TIED CARD OF 'laws.FnExactStripeOk'. -/
def fnExactStripeOkCard : Claim7 := { stood := { row := fnExactStripeOkRow, standIns := [], harness := (true, "c84ce17db33febd21c2827f1e7d13c8175474d27014ac2792a825cf7931b1ffb"), looks := false }, kinds := [], alts := [], laidByText := true, laidKinds := [.data, .pinned], laidTests := true, laidLooks := .later }
def FnExactStripeOkCardSaid : Prop := Claim7.holds Tryd.pinned (.plain (OpenSpec.ofChange fnExactStripeOkSpec)) fnExactStripeOkCard

/-- THE TIED CARD OF 'laws.FnExactPush'. -/
def fnExactPushCard : Claim7 := { stood := { row := fnExactPushRow, standIns := [], harness := (true, "c84ce17db33febd21c2827f1e7d13c8175474d27014ac2792a825cf7931b1ffb"), looks := false }, kinds := [], alts := [], laidByText := true, laidKinds := [.data, .pinned], laidTests := true, laidLooks := .later }
def FnExactPushCardSaid : Prop := Claim7.holds Tryd.pinned (.plain (OpenSpec.ofChange fnExactPushSpec)) fnExactPushCard

/-- THE TIED CARD OF 'laws.FnExactOutPush'. -/
def fnExactOutPushCard : Claim7 := { stood := { row := fnExactOutPushRow, standIns := [], harness := (true, "c84ce17db33febd21c2827f1e7d13c8175474d27014ac2792a825cf7931b1ffb"), looks := false }, kinds := [], alts := [], laidByText := true, laidKinds := [.data, .pinned], laidTests := true, laidLooks := .later }
def FnExactOutPushCardSaid : Prop := Claim7.holds Tryd.pinned (.plain (OpenSpec.ofChange fnExactOutPushSpec)) fnExactOutPushCard

/-- THE TIED CARD OF 'laws.FnExactSessNew'. -/
def fnExactSessNewCard : Claim7 := { stood := { row := fnExactSessNewRow, standIns := [], harness := (true, "c84ce17db33febd21c2827f1e7d13c8175474d27014ac2792a825cf7931b1ffb"), looks := false }, kinds := [], alts := [], laidByText := true, laidKinds := [.data, .pinned], laidTests := true, laidLooks := .later }
def FnExactSessNewCardSaid : Prop := Claim7.holds Tryd.pinned (.plain (OpenSpec.ofChange fnExactSessNewSpec)) fnExactSessNewCard

/-- THE SECOND FORM's CARD OF 'laws.FnExactMsgOk'. -/
def fnExactMsgOkUptoCard : Claim7 := { stood := { row := fnExactMsgOkUptoRow, standIns := [], harness := (true, "c84ce17db33febd21c2827f1e7d13c8175474d27014ac2792a825cf7931b1ffb"), looks := false }, kinds := [], alts := [], laidByText := true, laidKinds := [.data, .pinned], laidTests := true, laidLooks := .later }
def FnExactMsgOkUptoCardSaid : Prop := Claim7.holds Tryd.pinned (.plain (OpenSpec.upto fnExactMsgOkSpec)) fnExactMsgOkUptoCard

/-- THE SECOND FORM's CARD OF 'laws.FnExactQueueOk'. -/
def fnExactQueueOkUptoCard : Claim7 := { stood := { row := fnExactQueueOkUptoRow, standIns := [], harness := (true, "c84ce17db33febd21c2827f1e7d13c8175474d27014ac2792a825cf7931b1ffb"), looks := false }, kinds := [], alts := [], laidByText := true, laidKinds := [.data, .pinned], laidTests := true, laidLooks := .later }
def FnExactQueueOkUptoCardSaid : Prop := Claim7.holds Tryd.pinned (.plain (OpenSpec.upto fnExactQueueOkSpec)) fnExactQueueOkUptoCard

/-- THE SECOND FORM's CARD OF 'laws.FnExactOutOk'. -/
def fnExactOutOkUptoCard : Claim7 := { stood := { row := fnExactOutOkUptoRow, standIns := [], harness := (true, "c84ce17db33febd21c2827f1e7d13c8175474d27014ac2792a825cf7931b1ffb"), looks := false }, kinds := [], alts := [], laidByText := true, laidKinds := [.data, .pinned], laidTests := true, laidLooks := .later }
def FnExactOutOkUptoCardSaid : Prop := Claim7.holds Tryd.pinned (.plain (OpenSpec.upto fnExactOutOkSpec)) fnExactOutOkUptoCard

/-- THE SECOND FORM's CARD OF 'laws.FnExactOutReady'. -/
def fnExactOutReadyUptoCard : Claim7 := { stood := { row := fnExactOutReadyUptoRow, standIns := [], harness := (true, "c84ce17db33febd21c2827f1e7d13c8175474d27014ac2792a825cf7931b1ffb"), looks := false }, kinds := [], alts := [], laidByText := true, laidKinds := [.data, .pinned], laidTests := true, laidLooks := .later }
def FnExactOutReadyUptoCardSaid : Prop := Claim7.holds Tryd.pinned (.plain (OpenSpec.upto fnExactOutReadySpec)) fnExactOutReadyUptoCard

/-- THE SECOND FORM's CARD OF 'laws.FnExactSessOk'. -/
def fnExactSessOkUptoCard : Claim7 := { stood := { row := fnExactSessOkUptoRow, standIns := [], harness := (true, "c84ce17db33febd21c2827f1e7d13c8175474d27014ac2792a825cf7931b1ffb"), looks := false }, kinds := [], alts := [], laidByText := true, laidKinds := [.data, .pinned], laidTests := true, laidLooks := .later }
def FnExactSessOkUptoCardSaid : Prop := Claim7.holds Tryd.pinned (.plain (OpenSpec.upto fnExactSessOkSpec)) fnExactSessOkUptoCard

/-- THE SECOND FORM's CARD OF 'laws.FnExactStripeOk'. -/
def fnExactStripeOkUptoCard : Claim7 := { stood := { row := fnExactStripeOkUptoRow, standIns := [], harness := (true, "c84ce17db33febd21c2827f1e7d13c8175474d27014ac2792a825cf7931b1ffb"), looks := false }, kinds := [], alts := [], laidByText := true, laidKinds := [.data, .pinned], laidTests := true, laidLooks := .later }
def FnExactStripeOkUptoCardSaid : Prop := Claim7.holds Tryd.pinned (.plain (OpenSpec.upto fnExactStripeOkSpec)) fnExactStripeOkUptoCard

/-- THE SECOND FORM's CARD OF 'laws.FnExactPush'. -/
def fnExactPushUptoCard : Claim7 := { stood := { row := fnExactPushUptoRow, standIns := [], harness := (true, "c84ce17db33febd21c2827f1e7d13c8175474d27014ac2792a825cf7931b1ffb"), looks := false }, kinds := [], alts := [], laidByText := true, laidKinds := [.data, .pinned], laidTests := true, laidLooks := .later }
def FnExactPushUptoCardSaid : Prop := Claim7.holds Tryd.pinned (.plain (OpenSpec.upto fnExactPushSpec)) fnExactPushUptoCard

/-- THE SECOND FORM's CARD OF 'laws.FnExactOutPush'. -/
def fnExactOutPushUptoCard : Claim7 := { stood := { row := fnExactOutPushUptoRow, standIns := [], harness := (true, "c84ce17db33febd21c2827f1e7d13c8175474d27014ac2792a825cf7931b1ffb"), looks := false }, kinds := [], alts := [], laidByText := true, laidKinds := [.data, .pinned], laidTests := true, laidLooks := .later }
def FnExactOutPushUptoCardSaid : Prop := Claim7.holds Tryd.pinned (.plain (OpenSpec.upto fnExactOutPushSpec)) fnExactOutPushUptoCard

/-- THE SECOND FORM's CARD OF 'laws.FnExactSessNew'. -/
def fnExactSessNewUptoCard : Claim7 := { stood := { row := fnExactSessNewUptoRow, standIns := [], harness := (true, "c84ce17db33febd21c2827f1e7d13c8175474d27014ac2792a825cf7931b1ffb"), looks := false }, kinds := [], alts := [], laidByText := true, laidKinds := [.data, .pinned], laidTests := true, laidLooks := .later }
def FnExactSessNewUptoCardSaid : Prop := Claim7.holds Tryd.pinned (.plain (OpenSpec.upto fnExactSessNewSpec)) fnExactSessNewUptoCard
end Rows
end Go.Proofs.YtpcgppelelfmiaaDoor
