/- The law FnAgain and its row: every input, no condition (written by laws.py). -/
import Derived.Test.YtdofipeaomgbbaaGreatDoorMgf
import Derived.Test.YtdofipeaomgbbaaGreatDoorRows
import Derived.Test.YtdofipeaomgbbaaGreatDoorTie
import Derived.Test.YtdofipeaomgbbaaGreatDoorCards
import Derived.Lib.LaidIn
import Derived.Lib.LaidU8T
import Derived.PinnedBridge
import Derived.SevenTiedAt
import Derived.Deep.DeepHandedRow
import Derived.Deep.DeepWitnessRowRef
import Derived.WalkKit
import Derived.ProofKit
import Derived.OpenShut
import Derived.ShutString
import Derived.ChangeOld
import Derived.Below
import Derived.SizedLaws
namespace Go.Proofs.YtdofipeaomgbbaaGreatDoor.fnAgain
open _root_.List renaming all_eq_true → za3
open Go Go.Shelf Go.Lib Go.ChangeShapes Go.WideShapes Go.ChangeAt Go.RowKit
open Go.Proofs.YtdofipeaomgbbaaGreatDoor.Abs
set_option linter.unusedVariables false
set_option maxRecDepth 1000000
theorem g0 : Rows.fnAgainRow.wfByText (OpenSpec.ofChange Rows.fnAgainSpec) = true := by kernel_rfl
theorem g1 : Tryz.checked.prog.mainIs = some (true, "0a27739a23927959b52e62236c861a08140b5f0d0d38ba7d693ff2144eb1291b".toList) := by kernel_rfl
theorem g2 : false = Tryz.checked.prog.looks [] := by kernel_rfl
theorem g3 : false = Rows.fnAgainRow.goesBy Tryz.checked.prog := by kernel_rfl
theorem g4 : Tryz.prog.funcNamed "loop.example/g00480/laws.FnAgain" = some 3 := by kernel_rfl
theorem g5 : ([22].all fun u => !Tryz.prog.wantsStandIn u) = true := by kernel_rfl
theorem proved : Rows.FnAgainCardSaid :=
 Claim7.holds_tied_plain_at .later [] [.data, .pinned] true (true, "0a27739a23927959b52e62236c861a08140b5f0d0d38ba7d693ff2144eb1291b") false
  over (fun _ h => by cases h) g0 (fun _ h => by cases h) fnAgain_row_tie rfl ⟨rfl, rfl⟩ g1 rfl
  (fun f fn hf hfn => by
   obtain rfl : f = 3 := Option.some.inj (g4.symm.trans hf) |>.symm
   obtain rfl : fn = Tryz.f3 := (Option.some.inj (Tryz.func3.symm.trans hfn)).symm
   exact ⟨g2, fun j t ht => by
    rw [Tryz.params3] at ht
    have hm : t ∈ [22] := by simpa using Array.mem_of_getElem? ht
    have hall : ([22].all fun u => !Tryz.prog.wantsStandIn u) = true := g5
    exact (show Tryz.prog.wantsStandIn t = false by simpa using za3.1 hall t hm)⟩)
  g3
#print axioms proved
end Go.Proofs.YtdofipeaomgbbaaGreatDoor.fnAgain
namespace Go.Proofs.YtdofipeaomgbbaaGreatDoor
theorem fnAgain_holds : Rows.FnAgainCardSaid := fnAgain.proved
end Go.Proofs.YtdofipeaomgbbaaGreatDoor
