/- The law FnSessions and its row: every input, no condition (written by laws.py). -/
import Derived.Test.YtdofipeaomgbbaaGreatDoorMsf
import Derived.Test.YtdofipeaomgbbaaGreatDoorRows
import Derived.Test.YtdofipeaomgbbaaGreatDoorTie
import Derived.Test.YtdofipeaomgbbaaGreatDoorCards
import Derived.Lib.LaidIn
import Derived.Lib.LaidU8T
import Derived.PinnedBridge
import Derived.SevenTiedAt
import Derived.Deep.DeepHandedRow
import Derived.Deep.DeepWitnessRowRef
import Derived.WalkKit
import Derived.ProofKit
import Derived.OpenShut
import Derived.ShutString
import Derived.ChangeOld
import Derived.Below
import Derived.SizedLaws
namespace Go.Proofs.YtdofipeaomgbbaaGreatDoor.fnSessions
open _root_.List renaming all_eq_true → zaF
open Go Go.Shelf Go.Lib Go.ChangeShapes Go.WideShapes Go.ChangeAt Go.RowKit
open Go.Proofs.YtdofipeaomgbbaaGreatDoor.Abs
set_option linter.unusedVariables false
set_option maxRecDepth 1000000
theorem g0 : Rows.fnSessionsRow.wfByText (OpenSpec.ofChange Rows.fnSessionsSpec) = true := by kernel_rfl
theorem g1 : Tryz.checked.prog.mainIs = some (true, "0a27739a23927959b52e62236c861a08140b5f0d0d38ba7d693ff2144eb1291b".toList) := by kernel_rfl
theorem g2 : false = Tryz.checked.prog.looks [] := by kernel_rfl
theorem g3 : false = Rows.fnSessionsRow.goesBy Tryz.checked.prog := by kernel_rfl
theorem g4 : Tryz.prog.funcNamed "loop.example/g00480/laws.FnSessions" = some 5 := by kernel_rfl
theorem g5 : ([22].all fun u => !Tryz.prog.wantsStandIn u) = true := by kernel_rfl
theorem proved : Rows.FnSessionsCardSaid :=
 Claim7.holds_tied_plain_at .later [] [.data, .pinned] true (true, "0a27739a23927959b52e62236c861a08140b5f0d0d38ba7d693ff2144eb1291b") false
  over (fun _ h => by cases h) g0 (fun _ h => by cases h) fnSessions_row_tie rfl ⟨rfl, rfl⟩ g1 rfl
  (fun f fn hf hfn => by
   obtain rfl : f = 5 := Option.some.inj (g4.symm.trans hf) |>.symm
   obtain rfl : fn = Tryz.f5 := (Option.some.inj (Tryz.func5.symm.trans hfn)).symm
   exact ⟨g2, fun j t ht => by
    rw [Tryz.params5] at ht
    have hm : t ∈ [22] := by simpa using Array.mem_of_getElem? ht
    have hall : ([22].all fun u => !Tryz.prog.wantsStandIn u) = true := g5
    exact (show Tryz.prog.wantsStandIn t = false by simpa using zaF.1 hall t hm)⟩)
  g3
#print axioms proved
end Go.Proofs.YtdofipeaomgbbaaGreatDoor.fnSessions
namespace Go.Proofs.YtdofipeaomgbbaaGreatDoor
theorem fnSessions_holds : Rows.FnSessionsCardSaid := fnSessions.proved
end Go.Proofs.YtdofipeaomgbbaaGreatDoor
