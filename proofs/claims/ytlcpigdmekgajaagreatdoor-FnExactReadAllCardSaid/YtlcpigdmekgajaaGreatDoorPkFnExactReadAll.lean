/- The law FnExactReadAll and its row: every input, no condition (written by laws.py). -/
import Derived.Test.YtlcpigdmekgajaaGreatDoorMrg
import Derived.Test.YtlcpigdmekgajaaGreatDoorRows
import Derived.Test.YtlcpigdmekgajaaGreatDoorTie
import Derived.Test.YtlcpigdmekgajaaGreatDoorCards
import Derived.Lib.LaidIn
import Derived.Lib.LaidU8T
import Derived.PinnedBridge
import Derived.SevenTiedAt
import Derived.Deep.DeepHandedRow
import Derived.Deep.DeepWitnessRowRef
import Derived.WalkKit
import Derived.ProofKit
import Derived.OpenShut
import Derived.ShutString
import Derived.ChangeOld
import Derived.Below
import Derived.SizedLaws
namespace Go.Proofs.YtlcpigdmekgajaaGreatDoor.fnExactReadAll
open _root_.List renaming all_eq_true → za4
open Go Go.Shelf Go.Lib Go.ChangeShapes Go.WideShapes Go.ChangeAt Go.RowKit
open Go.Proofs.YtlcpigdmekgajaaGreatDoor.Abs
set_option linter.unusedVariables false
set_option maxRecDepth 1000000 in
theorem g0 : Rows.fnExactReadAllRow.wfByText (OpenSpec.ofChange Rows.fnExactReadAllSpec) = true := by kernel_rfl
set_option maxRecDepth 1000000 in
theorem g1 : Tryz.checked.prog.mainIs = some (true, "597c1ef5028e4cf14d19eba7d8051cf4d868f824198412c7e92dd7dedfecfc7c".toList) := by kernel_rfl
set_option maxRecDepth 1000000 in
theorem g2 : false = Tryz.checked.prog.looks [] := by kernel_rfl
set_option maxRecDepth 1000000 in
theorem g3 : false = Rows.fnExactReadAllRow.goesBy Tryz.checked.prog := by kernel_rfl
set_option maxRecDepth 1000000 in
theorem g4 : Tryz.prog.funcNamed "loop.example/g00480/laws.FnExactReadAll" = some 7 := by kernel_rfl
set_option maxRecDepth 1000000 in
theorem g5 : ([22].all fun u => !Tryz.prog.wantsStandIn u) = true := by kernel_rfl
theorem proved : Rows.FnExactReadAllCardSaid :=
 Claim7.holds_tied_plain_at .later [] [.data, .pinned] true (true, "597c1ef5028e4cf14d19eba7d8051cf4d868f824198412c7e92dd7dedfecfc7c") false
  over (fun _ h => by cases h) g0 (fun _ h => by cases h) fnExactReadAll_row_tie rfl ⟨rfl, rfl⟩ g1 rfl
  (fun f fn hf hfn => by
   obtain rfl : f = 7 := Option.some.inj (g4.symm.trans hf) |>.symm
   obtain rfl : fn = Tryz.f7 := (Option.some.inj (Tryz.func7.symm.trans hfn)).symm
   exact ⟨g2, fun j t ht => by
    rw [Tryz.params7] at ht
    have hm : t ∈ [22] := by simpa using Array.mem_of_getElem? ht
    have hall : ([22].all fun u => !Tryz.prog.wantsStandIn u) = true := g5
    exact (show Tryz.prog.wantsStandIn t = false by simpa using za4.1 hall t hm)⟩)
  g3
#print axioms proved
end Go.Proofs.YtlcpigdmekgajaaGreatDoor.fnExactReadAll
namespace Go.Proofs.YtlcpigdmekgajaaGreatDoor
theorem fnExactReadAll_holds : Rows.FnExactReadAllCardSaid := fnExactReadAll.proved
end Go.Proofs.YtlcpigdmekgajaaGreatDoor
