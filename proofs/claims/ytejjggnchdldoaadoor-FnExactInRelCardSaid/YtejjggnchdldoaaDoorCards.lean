/-
  DERIVED. GIVEN WITH THE SEED: THE CARDS: each row of YtejjggnchdldoaaDoorRows.lean that lists a variable, with what it lists TIED to the program's text (the seventh form; the later family's looks); each row that meets fmt, with fmt's text TOLD by the authors' own Lean function (tested against real Go, not proved from fmt's source: count such statements apart). THE CARD IS WHAT COUNTS. Prove the row's statement (the work); the ties are given (YtejjggnchdldoaaDoorTie.lean); close each card by the builder's one call (the guide's Derived/Test/ToyasCard.lean, 'card_holds'). Laid BY PROGRAM, IN A SANDBOX (cutbox-door.mjs). By AI agents, Wed Nov 11 2026. No macro, syntax, notation, axiom, sorry.
-/
import Derived.Test.YtejjggnchdldoaaDoorRows
import GoSem.ClaimSeven
namespace Go.Proofs.YtejjggnchdldoaaDoor
namespace Rows

/-- THE TIED CARD OF 'laws.FnExactInRel'. -/
def fnExactInRelCard : Claim7 := { stood := { row := fnExactInRelRow, standIns := [], harness := (true, "1895ff4382d146d592babc2927af436ba3b9c299382109b0d72c9fbf782b4bc2"), looks := false }, kinds := [], alts := [], laidByText := true, laidKinds := [.data, .pinned], laidTests := true, laidLooks := .later }
def FnExactInRelCardSaid : Prop := Claim7.holds Tryd.pinned (.plain (OpenSpec.ofChange fnExactInRelSpec)) fnExactInRelCard

/-- THE TIED CARD OF 'laws.FnQueues'. -/
def fnQueuesCard : Claim7 := { stood := { row := fnQueuesRow, standIns := [], harness := (true, "1895ff4382d146d592babc2927af436ba3b9c299382109b0d72c9fbf782b4bc2"), looks := false }, kinds := [], alts := [], laidByText := true, laidKinds := [.data, .pinned], laidTests := true, laidLooks := .later }
def FnQueuesCardSaid : Prop := Claim7.holds Tryd.pinned (.plain (OpenSpec.ofChange fnQueuesSpec)) fnQueuesCard

/-- THE SECOND FORM's CARD OF 'laws.FnExactInRel'. -/
def fnExactInRelUptoCard : Claim7 := { stood := { row := fnExactInRelUptoRow, standIns := [], harness := (true, "1895ff4382d146d592babc2927af436ba3b9c299382109b0d72c9fbf782b4bc2"), looks := false }, kinds := [], alts := [], laidByText := true, laidKinds := [.data, .pinned], laidTests := true, laidLooks := .later }
def FnExactInRelUptoCardSaid : Prop := Claim7.holds Tryd.pinned (.plain (OpenSpec.upto fnExactInRelSpec)) fnExactInRelUptoCard

/-- THE SECOND FORM's CARD OF 'laws.FnQueues'. -/
def fnQueuesUptoCard : Claim7 := { stood := { row := fnQueuesUptoRow, standIns := [], harness := (true, "1895ff4382d146d592babc2927af436ba3b9c299382109b0d72c9fbf782b4bc2"), looks := false }, kinds := [], alts := [], laidByText := true, laidKinds := [.data, .pinned], laidTests := true, laidLooks := .later }
def FnQueuesUptoCardSaid : Prop := Claim7.holds Tryd.pinned (.plain (OpenSpec.upto fnQueuesSpec)) fnQueuesUptoCard
end Rows
end Go.Proofs.YtejjggnchdldoaaDoor
