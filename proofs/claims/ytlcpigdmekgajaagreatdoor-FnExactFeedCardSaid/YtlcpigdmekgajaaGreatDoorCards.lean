/-
  DERIVED. GIVEN WITH THE SEED: THE CARDS: each row of YtlcpigdmekgajaaGreatDoorRows.lean that lists a variable, with what it lists TIED to the program's text (the seventh form; the later family's looks); each row that meets fmt, with fmt's text TOLD by the authors' own Lean function (tested against real Go, not proved from fmt's source: count such statements apart). THE CARD IS WHAT COUNTS. Prove the row's statement (the work); the ties are given (YtlcpigdmekgajaaGreatDoorTie.lean); close each card by the builder's one call (the guide's Derived/Test/ToyasCard.lean, 'card_holds'). Laid BY PROGRAM, IN A SANDBOX (cutbox-door.mjs). By AI agents, Wed Nov 11 2026. No macro, syntax, notation, axiom, sorry.
-/
import Derived.Test.YtlcpigdmekgajaaGreatDoorRows
import GoSem.ClaimSeven
namespace Go.Proofs.YtlcpigdmekgajaaGreatDoor
namespace Rows

/-- THE TIED CARD OF 'laws.FnExactDue'. -/
def fnExactDueCard : Claim7 := { stood := { row := fnExactDueRow, standIns := [], harness := (true, "597c1ef5028e4cf14d19eba7d8051cf4d868f824198412c7e92dd7dedfecfc7c"), looks := false }, kinds := [], alts := [], laidByText := true, laidKinds := [.data, .pinned], laidTests := true, laidLooks := .later }
def FnExactDueCardSaid : Prop := Claim7.holds Tryz.pinned (.plain (OpenSpec.ofChange fnExactDueSpec)) fnExactDueCard

/-- THE TIED CARD OF 'laws.FnExactFeedAll'. -/
def fnExactFeedAllCard : Claim7 := { stood := { row := fnExactFeedAllRow, standIns := [], harness := (true, "597c1ef5028e4cf14d19eba7d8051cf4d868f824198412c7e92dd7dedfecfc7c"), looks := false }, kinds := [], alts := [], laidByText := true, laidKinds := [.data, .pinned], laidTests := true, laidLooks := .later }
def FnExactFeedAllCardSaid : Prop := Claim7.holds Tryz.pinned (.plain (OpenSpec.ofChange fnExactFeedAllSpec)) fnExactFeedAllCard

/-- THE TIED CARD OF 'laws.FnExactBufOk'. -/
def fnExactBufOkCard : Claim7 := { stood := { row := fnExactBufOkRow, standIns := [], harness := (true, "597c1ef5028e4cf14d19eba7d8051cf4d868f824198412c7e92dd7dedfecfc7c"), looks := false }, kinds := [], alts := [], laidByText := true, laidKinds := [.data, .pinned], laidTests := true, laidLooks := .later }
def FnExactBufOkCardSaid : Prop := Claim7.holds Tryz.pinned (.plain (OpenSpec.ofChange fnExactBufOkSpec)) fnExactBufOkCard

/-- THE TIED CARD OF 'laws.FnExactGetPacket'. -/
def fnExactGetPacketCard : Claim7 := { stood := { row := fnExactGetPacketRow, standIns := [], harness := (true, "597c1ef5028e4cf14d19eba7d8051cf4d868f824198412c7e92dd7dedfecfc7c"), looks := false }, kinds := [], alts := [], laidByText := true, laidKinds := [.data, .pinned], laidTests := true, laidLooks := .later }
def FnExactGetPacketCardSaid : Prop := Claim7.holds Tryz.pinned (.plain (OpenSpec.ofChange fnExactGetPacketSpec)) fnExactGetPacketCard

/-- THE TIED CARD OF 'laws.FnExactReadAll'. -/
def fnExactReadAllCard : Claim7 := { stood := { row := fnExactReadAllRow, standIns := [], harness := (true, "597c1ef5028e4cf14d19eba7d8051cf4d868f824198412c7e92dd7dedfecfc7c"), looks := false }, kinds := [], alts := [], laidByText := true, laidKinds := [.data, .pinned], laidTests := true, laidLooks := .later }
def FnExactReadAllCardSaid : Prop := Claim7.holds Tryz.pinned (.plain (OpenSpec.ofChange fnExactReadAllSpec)) fnExactReadAllCard

/-- THE TIED CARD OF 'laws.FnExactFeed'. -/
def fnExactFeedCard : Claim7 := { stood := { row := fnExactFeedRow, standIns := [], harness := (true, "597c1ef5028e4cf14d19eba7d8051cf4d868f824198412c7e92dd7dedfecfc7c"), looks := false }, kinds := [], alts := [], laidByText := true, laidKinds := [.data, .pinned], laidTests := true, laidLooks := .later }
def FnExactFeedCardSaid : Prop := Claim7.holds Tryz.pinned (.plain (OpenSpec.ofChange fnExactFeedSpec)) fnExactFeedCard

/-- THE TIED CARD OF 'laws.FnExactConnOk'. -/
def fnExactConnOkCard : Claim7 := { stood := { row := fnExactConnOkRow, standIns := [], harness := (true, "597c1ef5028e4cf14d19eba7d8051cf4d868f824198412c7e92dd7dedfecfc7c"), looks := false }, kinds := [], alts := [], laidByText := true, laidKinds := [.data, .pinned], laidTests := true, laidLooks := .later }
def FnExactConnOkCardSaid : Prop := Claim7.holds Tryz.pinned (.plain (OpenSpec.ofChange fnExactConnOkSpec)) fnExactConnOkCard

/-- THE SECOND FORM's CARD OF 'laws.FnExactDue'. -/
def fnExactDueUptoCard : Claim7 := { stood := { row := fnExactDueUptoRow, standIns := [], harness := (true, "597c1ef5028e4cf14d19eba7d8051cf4d868f824198412c7e92dd7dedfecfc7c"), looks := false }, kinds := [], alts := [], laidByText := true, laidKinds := [.data, .pinned], laidTests := true, laidLooks := .later }
def FnExactDueUptoCardSaid : Prop := Claim7.holds Tryz.pinned (.plain (OpenSpec.upto fnExactDueSpec)) fnExactDueUptoCard

/-- THE SECOND FORM's CARD OF 'laws.FnExactFeedAll'. -/
def fnExactFeedAllUptoCard : Claim7 := { stood := { row := fnExactFeedAllUptoRow, standIns := [], harness := (true, "597c1ef5028e4cf14d19eba7d8051cf4d868f824198412c7e92dd7dedfecfc7c"), looks := false }, kinds := [], alts := [], laidByText := true, laidKinds := [.data, .pinned], laidTests := true, laidLooks := .later }
def FnExactFeedAllUptoCardSaid : Prop := Claim7.holds Tryz.pinned (.plain (OpenSpec.upto fnExactFeedAllSpec)) fnExactFeedAllUptoCard

/-- THE SECOND FORM's CARD OF 'laws.FnExactBufOk'. -/
def fnExactBufOkUptoCard : Claim7 := { stood := { row := fnExactBufOkUptoRow, standIns := [], harness := (true, "597c1ef5028e4cf14d19eba7d8051cf4d868f824198412c7e92dd7dedfecfc7c"), looks := false }, kinds := [], alts := [], laidByText := true, laidKinds := [.data, .pinned], laidTests := true, laidLooks := .later }
def FnExactBufOkUptoCardSaid : Prop := Claim7.holds Tryz.pinned (.plain (OpenSpec.upto fnExactBufOkSpec)) fnExactBufOkUptoCard

/-- THE SECOND FORM's CARD OF 'laws.FnExactGetPacket'. -/
def fnExactGetPacketUptoCard : Claim7 := { stood := { row := fnExactGetPacketUptoRow, standIns := [], harness := (true, "597c1ef5028e4cf14d19eba7d8051cf4d868f824198412c7e92dd7dedfecfc7c"), looks := false }, kinds := [], alts := [], laidByText := true, laidKinds := [.data, .pinned], laidTests := true, laidLooks := .later }
def FnExactGetPacketUptoCardSaid : Prop := Claim7.holds Tryz.pinned (.plain (OpenSpec.upto fnExactGetPacketSpec)) fnExactGetPacketUptoCard

/-- THE SECOND FORM's CARD OF 'laws.FnExactReadAll'. -/
def fnExactReadAllUptoCard : Claim7 := { stood := { row := fnExactReadAllUptoRow, standIns := [], harness := (true, "597c1ef5028e4cf14d19eba7d8051cf4d868f824198412c7e92dd7dedfecfc7c"), looks := false }, kinds := [], alts := [], laidByText := true, laidKinds := [.data, .pinned], laidTests := true, laidLooks := .later }
def FnExactReadAllUptoCardSaid : Prop := Claim7.holds Tryz.pinned (.plain (OpenSpec.upto fnExactReadAllSpec)) fnExactReadAllUptoCard

/-- THE SECOND FORM's CARD OF 'laws.FnExactFeed'. -/
def fnExactFeedUptoCard : Claim7 := { stood := { row := fnExactFeedUptoRow, standIns := [], harness := (true, "597c1ef5028e4cf14d19eba7d8051cf4d868f824198412c7e92dd7dedfecfc7c"), looks := false }, kinds := [], alts := [], laidByText := true, laidKinds := [.data, .pinned], laidTests := true, laidLooks := .later }
def FnExactFeedUptoCardSaid : Prop := Claim7.holds Tryz.pinned (.plain (OpenSpec.upto fnExactFeedSpec)) fnExactFeedUptoCard

/-- THE SECOND FORM's CARD OF 'laws.FnExactConnOk'. -/
def fnExactConnOkUptoCard : Claim7 := { stood := { row := fnExactConnOkUptoRow, standIns := [], harness := (true, "597c1ef5028e4cf14d19eba7d8051cf4d868f824198412c7e92dd7dedfecfc7c"), looks := false }, kinds := [], alts := [], laidByText := true, laidKinds := [.data, .pinned], laidTests := true, laidLooks := .later }
def FnExactConnOkUptoCardSaid : Prop := Claim7.holds Tryz.pinned (.plain (OpenSpec.upto fnExactConnOkSpec)) fnExactConnOkUptoCard
end Rows
end Go.Proofs.YtlcpigdmekgajaaGreatDoor
