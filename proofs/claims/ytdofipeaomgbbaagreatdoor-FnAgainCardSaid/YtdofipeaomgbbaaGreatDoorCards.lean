/-
  DERIVED. GIVEN WITH THE SEED: THE CARDS: each row of YtdofipeaomgbbaaGreatDoorRows.lean that lists a variable, with what it lists TIED to the program's text (the seventh form; the later family's looks); each row that meets fmt, with fmt's text TOLD by the authors' own Lean function (tested against real Go, not proved from fmt's source: count such statements apart). THE CARD IS WHAT COUNTS. Prove the row's statement (the work); the ties are given (YtdofipeaomgbbaaGreatDoorTie.lean); close each card by the builder's one call (the guide's Derived/Test/ToyasCard.lean, 'card_holds'). Laid BY PROGRAM, IN A SANDBOX (cutbox-door.mjs). By AI agents, Wed Nov 11 2026. No macro, syntax, notation, axiom, sorry.
-/
import Derived.Test.YtdofipeaomgbbaaGreatDoorRows
import GoSem.ClaimSeven
namespace Go.Proofs.YtdofipeaomgbbaaGreatDoor
namespace Rows

/-- THE TIED CARD OF 'laws.FnAgain'. -/
def fnAgainCard : Claim7 := { stood := { row := fnAgainRow, standIns := [], harness := (true, "0a27739a23927959b52e62236c861a08140b5f0d0d38ba7d693ff2144eb1291b"), looks := false }, kinds := [], alts := [], laidByText := true, laidKinds := [.data, .pinned], laidTests := true, laidLooks := .later }
def FnAgainCardSaid : Prop := Claim7.holds Tryz.pinned (.plain (OpenSpec.ofChange fnAgainSpec)) fnAgainCard

/-- THE TIED CARD OF 'laws.FnPushes'. -/
def fnPushesCard : Claim7 := { stood := { row := fnPushesRow, standIns := [], harness := (true, "0a27739a23927959b52e62236c861a08140b5f0d0d38ba7d693ff2144eb1291b"), looks := false }, kinds := [], alts := [], laidByText := true, laidKinds := [.data, .pinned], laidTests := true, laidLooks := .later }
def FnPushesCardSaid : Prop := Claim7.holds Tryz.pinned (.plain (OpenSpec.ofChange fnPushesSpec)) fnPushesCard

/-- THE TIED CARD OF 'laws.FnSessions'. -/
def fnSessionsCard : Claim7 := { stood := { row := fnSessionsRow, standIns := [], harness := (true, "0a27739a23927959b52e62236c861a08140b5f0d0d38ba7d693ff2144eb1291b"), looks := false }, kinds := [], alts := [], laidByText := true, laidKinds := [.data, .pinned], laidTests := true, laidLooks := .later }
def FnSessionsCardSaid : Prop := Claim7.holds Tryz.pinned (.plain (OpenSpec.ofChange fnSessionsSpec)) fnSessionsCard

/-- THE TIED CARD OF 'laws.FnOuts'. -/
def fnOutsCard : Claim7 := { stood := { row := fnOutsRow, standIns := [], harness := (true, "0a27739a23927959b52e62236c861a08140b5f0d0d38ba7d693ff2144eb1291b"), looks := false }, kinds := [], alts := [], laidByText := true, laidKinds := [.data, .pinned], laidTests := true, laidLooks := .later }
def FnOutsCardSaid : Prop := Claim7.holds Tryz.pinned (.plain (OpenSpec.ofChange fnOutsSpec)) fnOutsCard

/-- THE SECOND FORM's CARD OF 'laws.FnAgain'. -/
def fnAgainUptoCard : Claim7 := { stood := { row := fnAgainUptoRow, standIns := [], harness := (true, "0a27739a23927959b52e62236c861a08140b5f0d0d38ba7d693ff2144eb1291b"), looks := false }, kinds := [], alts := [], laidByText := true, laidKinds := [.data, .pinned], laidTests := true, laidLooks := .later }
def FnAgainUptoCardSaid : Prop := Claim7.holds Tryz.pinned (.plain (OpenSpec.upto fnAgainSpec)) fnAgainUptoCard

/-- THE SECOND FORM's CARD OF 'laws.FnPushes'. -/
def fnPushesUptoCard : Claim7 := { stood := { row := fnPushesUptoRow, standIns := [], harness := (true, "0a27739a23927959b52e62236c861a08140b5f0d0d38ba7d693ff2144eb1291b"), looks := false }, kinds := [], alts := [], laidByText := true, laidKinds := [.data, .pinned], laidTests := true, laidLooks := .later }
def FnPushesUptoCardSaid : Prop := Claim7.holds Tryz.pinned (.plain (OpenSpec.upto fnPushesSpec)) fnPushesUptoCard

/-- THE SECOND FORM's CARD OF 'laws.FnSessions'. -/
def fnSessionsUptoCard : Claim7 := { stood := { row := fnSessionsUptoRow, standIns := [], harness := (true, "0a27739a23927959b52e62236c861a08140b5f0d0d38ba7d693ff2144eb1291b"), looks := false }, kinds := [], alts := [], laidByText := true, laidKinds := [.data, .pinned], laidTests := true, laidLooks := .later }
def FnSessionsUptoCardSaid : Prop := Claim7.holds Tryz.pinned (.plain (OpenSpec.upto fnSessionsSpec)) fnSessionsUptoCard

/-- THE SECOND FORM's CARD OF 'laws.FnOuts'. -/
def fnOutsUptoCard : Claim7 := { stood := { row := fnOutsUptoRow, standIns := [], harness := (true, "0a27739a23927959b52e62236c861a08140b5f0d0d38ba7d693ff2144eb1291b"), looks := false }, kinds := [], alts := [], laidByText := true, laidKinds := [.data, .pinned], laidTests := true, laidLooks := .later }
def FnOutsUptoCardSaid : Prop := Claim7.holds Tryz.pinned (.plain (OpenSpec.upto fnOutsSpec)) fnOutsUptoCard
end Rows
end Go.Proofs.YtdofipeaomgbbaaGreatDoor
