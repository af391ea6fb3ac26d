/-
  DERIVED. GIVEN WITH THE SEED: THE CARDS: each row of YtjiahcekpohehaaGreatDoorRows.lean that lists a variable, with what it lists TIED to the program's text (the seventh form; the later family's looks); each row that meets fmt, with fmt's text TOLD by the authors' own Lean function (tested against real Go, not proved from fmt's source: count such statements apart). THE CARD IS WHAT COUNTS. Prove the row's statement (the work); the ties are given (YtjiahcekpohehaaGreatDoorTie.lean); close each card by the builder's one call (the guide's Derived/Test/ToyasCard.lean, 'card_holds'). Laid BY PROGRAM, IN A SANDBOX (cutbox-door.mjs). By AI agents, Wed Nov 11 2026. No macro, syntax, notation, axiom, sorry.
-/
import Derived.Test.YtjiahcekpohehaaGreatDoorRows
import GoSem.ClaimSeven
namespace Go.Proofs.YtjiahcekpohehaaGreatDoor
namespace Rows

/-- THE TIED CARD OF 'laws.FnExactOutAck'. -/
def fnExactOutAckCard : Claim7 := { stood := { row := fnExactOutAckRow, standIns := [], harness := (true, "8f24e93a5115bad4f4c94a0b5f5a75ad1ca9f5b4efd08f1f305345e4edbd5b79"), looks := false }, kinds := [], alts := [], laidByText := true, laidKinds := [.data, .pinned], laidTests := true, laidLooks := .later }
def FnExactOutAckCardSaid : Prop := Claim7.holds Tryz.pinned (.plain (OpenSpec.ofChange fnExactOutAckSpec)) fnExactOutAckCard

/-- THE TIED CARD OF 'laws.FnExactPutSess'. -/
def fnExactPutSessCard : Claim7 := { stood := { row := fnExactPutSessRow, standIns := [], harness := (true, "8f24e93a5115bad4f4c94a0b5f5a75ad1ca9f5b4efd08f1f305345e4edbd5b79"), looks := false }, kinds := [], alts := [], laidByText := true, laidKinds := [.data, .pinned], laidTests := true, laidLooks := .later }
def FnExactPutSessCardSaid : Prop := Claim7.holds Tryz.pinned (.plain (OpenSpec.ofChange fnExactPutSessSpec)) fnExactPutSessCard

/-- THE TIED CARD OF 'laws.FnExactInPub'. -/
def fnExactInPubCard : Claim7 := { stood := { row := fnExactInPubRow, standIns := [], harness := (true, "8f24e93a5115bad4f4c94a0b5f5a75ad1ca9f5b4efd08f1f305345e4edbd5b79"), looks := false }, kinds := [], alts := [], laidByText := true, laidKinds := [.data, .pinned], laidTests := true, laidLooks := .later }
def FnExactInPubCardSaid : Prop := Claim7.holds Tryz.pinned (.plain (OpenSpec.ofChange fnExactInPubSpec)) fnExactInPubCard

/-- THE TIED CARD OF 'laws.FnExactTaskOk'. -/
def fnExactTaskOkCard : Claim7 := { stood := { row := fnExactTaskOkRow, standIns := [], harness := (true, "8f24e93a5115bad4f4c94a0b5f5a75ad1ca9f5b4efd08f1f305345e4edbd5b79"), looks := false }, kinds := [], alts := [], laidByText := true, laidKinds := [.data, .pinned], laidTests := true, laidLooks := .later }
def FnExactTaskOkCardSaid : Prop := Claim7.holds Tryz.pinned (.plain (OpenSpec.ofChange fnExactTaskOkSpec)) fnExactTaskOkCard

/-- THE TIED CARD OF 'laws.FnExactConnNew'. -/
def fnExactConnNewCard : Claim7 := { stood := { row := fnExactConnNewRow, standIns := [], harness := (true, "8f24e93a5115bad4f4c94a0b5f5a75ad1ca9f5b4efd08f1f305345e4edbd5b79"), looks := false }, kinds := [], alts := [], laidByText := true, laidKinds := [.data, .pinned], laidTests := true, laidLooks := .later }
def FnExactConnNewCardSaid : Prop := Claim7.holds Tryz.pinned (.plain (OpenSpec.ofChange fnExactConnNewSpec)) fnExactConnNewCard

/-- THE TIED CARD OF 'laws.FnExactModelOk'. -/
def fnExactModelOkCard : Claim7 := { stood := { row := fnExactModelOkRow, standIns := [], harness := (true, "8f24e93a5115bad4f4c94a0b5f5a75ad1ca9f5b4efd08f1f305345e4edbd5b79"), looks := false }, kinds := [], alts := [], laidByText := true, laidKinds := [.data, .pinned], laidTests := true, laidLooks := .later }
def FnExactModelOkCardSaid : Prop := Claim7.holds Tryz.pinned (.plain (OpenSpec.ofChange fnExactModelOkSpec)) fnExactModelOkCard

/-- THE TIED CARD OF 'laws.FnPushes'. -/
def fnPushesCard : Claim7 := { stood := { row := fnPushesRow, standIns := [], harness := (true, "8f24e93a5115bad4f4c94a0b5f5a75ad1ca9f5b4efd08f1f305345e4edbd5b79"), looks := false }, kinds := [], alts := [], laidByText := true, laidKinds := [.data, .pinned], laidTests := true, laidLooks := .later }
def FnPushesCardSaid : Prop := Claim7.holds Tryz.pinned (.plain (OpenSpec.ofChange fnPushesSpec)) fnPushesCard

/-- THE TIED CARD OF 'laws.FnSessions'. -/
def fnSessionsCard : Claim7 := { stood := { row := fnSessionsRow, standIns := [], harness := (true, "8f24e93a5115bad4f4c94a0b5f5a75ad1ca9f5b4efd08f1f305345e4edbd5b79"), looks := false }, kinds := [], alts := [], laidByText := true, laidKinds := [.data, .pinned], laidTests := true, laidLooks := .later }
def FnSessionsCardSaid : Prop := Claim7.holds Tryz.pinned (.plain (OpenSpec.ofChange fnSessionsSpec)) fnSessionsCard

/-- THE TIED CARD OF 'laws.FnAgain'. -/
def fnAgainCard : Claim7 := { stood := { row := fnAgainRow, standIns := [], harness := (true, "8f24e93a5115bad4f4c94a0b5f5a75ad1ca9f5b4efd08f1f305345e4edbd5b79"), looks := false }, kinds := [], alts := [], laidByText := true, laidKinds := [.data, .pinned], laidTests := true, laidLooks := .later }
def FnAgainCardSaid : Prop := Claim7.holds Tryz.pinned (.plain (OpenSpec.ofChange fnAgainSpec)) fnAgainCard

/-- THE SECOND FORM's CARD OF 'laws.FnExactOutAck'. -/
def fnExactOutAckUptoCard : Claim7 := { stood := { row := fnExactOutAckUptoRow, standIns := [], harness := (true, "8f24e93a5115bad4f4c94a0b5f5a75ad1ca9f5b4efd08f1f305345e4edbd5b79"), looks := false }, kinds := [], alts := [], laidByText := true, laidKinds := [.data, .pinned], laidTests := true, laidLooks := .later }
def FnExactOutAckUptoCardSaid : Prop := Claim7.holds Tryz.pinned (.plain (OpenSpec.upto fnExactOutAckSpec)) fnExactOutAckUptoCard

/-- THE SECOND FORM's CARD OF 'laws.FnExactPutSess'. -/
def fnExactPutSessUptoCard : Claim7 := { stood := { row := fnExactPutSessUptoRow, standIns := [], harness := (true, "8f24e93a5115bad4f4c94a0b5f5a75ad1ca9f5b4efd08f1f305345e4edbd5b79"), looks := false }, kinds := [], alts := [], laidByText := true, laidKinds := [.data, .pinned], laidTests := true, laidLooks := .later }
def FnExactPutSessUptoCardSaid : Prop := Claim7.holds Tryz.pinned (.plain (OpenSpec.upto fnExactPutSessSpec)) fnExactPutSessUptoCard

/-- THE SECOND FORM's CARD OF 'laws.FnExactInPub'. -/
def fnExactInPubUptoCard : Claim7 := { stood := { row := fnExactInPubUptoRow, standIns := [], harness := (true, "8f24e93a5115bad4f4c94a0b5f5a75ad1ca9f5b4efd08f1f305345e4edbd5b79"), looks := false }, kinds := [], alts := [], laidByText := true, laidKinds := [.data, .pinned], laidTests := true, laidLooks := .later }
def FnExactInPubUptoCardSaid : Prop := Claim7.holds Tryz.pinned (.plain (OpenSpec.upto fnExactInPubSpec)) fnExactInPubUptoCard

/-- THE SECOND FORM's CARD OF 'laws.FnExactTaskOk'. -/
def fnExactTaskOkUptoCard : Claim7 := { stood := { row := fnExactTaskOkUptoRow, standIns := [], harness := (true, "8f24e93a5115bad4f4c94a0b5f5a75ad1ca9f5b4efd08f1f305345e4edbd5b79"), looks := false }, kinds := [], alts := [], laidByText := true, laidKinds := [.data, .pinned], laidTests := true, laidLooks := .later }
def FnExactTaskOkUptoCardSaid : Prop := Claim7.holds Tryz.pinned (.plain (OpenSpec.upto fnExactTaskOkSpec)) fnExactTaskOkUptoCard

/-- THE SECOND FORM's CARD OF 'laws.FnExactConnNew'. -/
def fnExactConnNewUptoCard : Claim7 := { stood := { row := fnExactConnNewUptoRow, standIns := [], harness := (true, "8f24e93a5115bad4f4c94a0b5f5a75ad1ca9f5b4efd08f1f305345e4edbd5b79"), looks := false }, kinds := [], alts := [], laidByText := true, laidKinds := [.data, .pinned], laidTests := true, laidLooks := .later }
def FnExactConnNewUptoCardSaid : Prop := Claim7.holds Tryz.pinned (.plain (OpenSpec.upto fnExactConnNewSpec)) fnExactConnNewUptoCard

/-- THE SECOND FORM's CARD OF 'laws.FnExactModelOk'. -/
def fnExactModelOkUptoCard : Claim7 := { stood := { row := fnExactModelOkUptoRow, standIns := [], harness := (true, "8f24e93a5115bad4f4c94a0b5f5a75ad1ca9f5b4efd08f1f305345e4edbd5b79"), looks := false }, kinds := [], alts := [], laidByText := true, laidKinds := [.data, .pinned], laidTests := true, laidLooks := .later }
def FnExactModelOkUptoCardSaid : Prop := Claim7.holds Tryz.pinned (.plain (OpenSpec.upto fnExactModelOkSpec)) fnExactModelOkUptoCard

/-- THE SECOND FORM's CARD OF 'laws.FnPushes'. -/
def fnPushesUptoCard : Claim7 := { stood := { row := fnPushesUptoRow, standIns := [], harness := (true, "8f24e93a5115bad4f4c94a0b5f5a75ad1ca9f5b4efd08f1f305345e4edbd5b79"), looks := false }, kinds := [], alts := [], laidByText := true, laidKinds := [.data, .pinned], laidTests := true, laidLooks := .later }
def FnPushesUptoCardSaid : Prop := Claim7.holds Tryz.pinned (.plain (OpenSpec.upto fnPushesSpec)) fnPushesUptoCard

/-- THE SECOND FORM's CARD OF 'laws.FnSessions'. -/
def fnSessionsUptoCard : Claim7 := { stood := { row := fnSessionsUptoRow, standIns := [], harness := (true, "8f24e93a5115bad4f4c94a0b5f5a75ad1ca9f5b4efd08f1f305345e4edbd5b79"), looks := false }, kinds := [], alts := [], laidByText := true, laidKinds := [.data, .pinned], laidTests := true, laidLooks := .later }
def FnSessionsUptoCardSaid : Prop := Claim7.holds Tryz.pinned (.plain (OpenSpec.upto fnSessionsSpec)) fnSessionsUptoCard

/-- THE SECOND FORM's CARD OF 'laws.FnAgain'. -/
def fnAgainUptoCard : Claim7 := { stood := { row := fnAgainUptoRow, standIns := [], harness := (true, "8f24e93a5115bad4f4c94a0b5f5a75ad1ca9f5b4efd08f1f305345e4edbd5b79"), looks := false }, kinds := [], alts := [], laidByText := true, laidKinds := [.data, .pinned], laidTests := true, laidLooks := .later }
def FnAgainUptoCardSaid : Prop := Claim7.holds Tryz.pinned (.plain (OpenSpec.upto fnAgainSpec)) fnAgainUptoCard
end Rows
end Go.Proofs.YtjiahcekpohehaaGreatDoor
