/- The law FnExactFeed and its row: every input, no condition (written by laws.py). -/
import Derived.Test.YtlcpigdmekgajaaGreatDoorMfg
import Derived.Test.YtlcpigdmekgajaaGreatDoorRows
import Derived.Test.YtlcpigdmekgajaaGreatDoorTie
import Derived.Test.YtlcpigdmekgajaaGreatDoorCards
import Derived.Lib.LaidIn
import Derived.Lib.LaidU8T
import Derived.PinnedBridge
import Derived.SevenTiedAt
import Derived.Deep.DeepHandedRow
import Derived.Deep.DeepWitnessRowRef
import Derived.WalkKit
import Derived.ProofKit
import Derived.OpenShut
import Derived.ShutString
import Derived.ChangeOld
import Derived.Below
import Derived.SizedLaws
namespace Go.Proofs.YtlcpigdmekgajaaGreatDoor.fnExactFeed
open _root_.List renaming all_eq_true → za9
open Go Go.Shelf Go.Lib Go.ChangeShapes Go.WideShapes Go.ChangeAt Go.RowKit
open Go.Proofs.YtlcpigdmekgajaaGreatDoor.Abs
set_option linter.unusedVariables false
set_option maxRecDepth 1000000
theorem g0 : Rows.fnExactFeedRow.wfByText (OpenSpec.ofChange Rows.fnExactFeedSpec) = true := by kernel_rfl
theorem g1 : Tryz.checked.prog.mainIs = some (true, "597c1ef5028e4cf14d19eba7d8051cf4d868f824198412c7e92dd7dedfecfc7c".toList) := by kernel_rfl
theorem g2 : false = Tryz.checked.prog.looks [] := by kernel_rfl
theorem g3 : false = Rows.fnExactFeedRow.goesBy Tryz.checked.prog := by kernel_rfl
theorem g4 : Tryz.prog.funcNamed "loop.example/g00480/laws.FnExactFeed" = some 8 := by kernel_rfl
theorem g5 : ([24, 22].all fun u => !Tryz.prog.wantsStandIn u) = true := by kernel_rfl
theorem proved : Rows.FnExactFeedCardSaid :=
 Claim7.holds_tied_plain_at .later [] [.data, .pinned] true (true, "597c1ef5028e4cf14d19eba7d8051cf4d868f824198412c7e92dd7dedfecfc7c") false
  over (fun _ h => by cases h) g0 (fun _ h => by cases h) fnExactFeed_row_tie rfl ⟨rfl, rfl⟩ g1 rfl
  (fun f fn hf hfn => by
   obtain rfl : f = 8 := Option.some.inj (g4.symm.trans hf) |>.symm
   obtain rfl : fn = Tryz.f8 := (Option.some.inj (Tryz.func8.symm.trans hfn)).symm
   exact ⟨g2, fun j t ht => by
    rw [Tryz.params8] at ht
    have hm : t ∈ [24, 22] := by simpa using Array.mem_of_getElem? ht
    have hall : ([24, 22].all fun u => !Tryz.prog.wantsStandIn u) = true := g5
    exact (show Tryz.prog.wantsStandIn t = false by simpa using za9.1 hall t hm)⟩)
  g3
#print axioms proved
end Go.Proofs.YtlcpigdmekgajaaGreatDoor.fnExactFeed
namespace Go.Proofs.YtlcpigdmekgajaaGreatDoor
theorem fnExactFeed_holds : Rows.FnExactFeedCardSaid := fnExactFeed.proved
end Go.Proofs.YtlcpigdmekgajaaGreatDoor
