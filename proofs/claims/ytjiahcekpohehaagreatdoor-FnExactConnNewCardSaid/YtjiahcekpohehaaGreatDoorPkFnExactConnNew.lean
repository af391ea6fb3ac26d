/- The law FnExactConnNew and its row: every input, no condition (written by laws.py). -/
import Derived.Test.YtjiahcekpohehaaGreatDoorMnd
import Derived.Test.YtjiahcekpohehaaGreatDoorRows
import Derived.Test.YtjiahcekpohehaaGreatDoorTie
import Derived.Test.YtjiahcekpohehaaGreatDoorCards
import Derived.Lib.LaidIn
import Derived.Lib.LaidU8T
import Derived.PinnedBridge
import Derived.SevenTiedAt
import Derived.Deep.DeepHandedRow
import Derived.Deep.DeepWitnessRowRef
import Derived.WalkKit
import Derived.ProofKit
import Derived.OpenShut
import Derived.ShutString
import Derived.ChangeOld
import Derived.Below
import Derived.SizedLaws
namespace Go.Proofs.YtjiahcekpohehaaGreatDoor.fnExactConnNew
open Go Go.Shelf Go.Lib Go.ChangeShapes Go.WideShapes Go.ChangeAt Go.RowKit
open Go.Proofs.YtjiahcekpohehaaGreatDoor.Abs
set_option linter.unusedVariables false
set_option maxRecDepth 1000000 in
theorem g0 : Rows.fnExactConnNewRow.wfByText (OpenSpec.ofChange Rows.fnExactConnNewSpec) = true := by kernel_rfl
set_option maxRecDepth 1000000 in
theorem g1 : Tryz.checked.prog.mainIs = some (true, "8f24e93a5115bad4f4c94a0b5f5a75ad1ca9f5b4efd08f1f305345e4edbd5b79".toList) := by kernel_rfl
set_option maxRecDepth 1000000 in
theorem g2 : false = Tryz.checked.prog.looks [] := by kernel_rfl
set_option maxRecDepth 1000000 in
theorem g3 : false = Rows.fnExactConnNewRow.goesBy Tryz.checked.prog := by kernel_rfl
set_option maxRecDepth 1000000 in
theorem g4 : Tryz.prog.funcNamed "loop.example/g00480/laws.FnExactConnNew" = some 7 := by kernel_rfl
set_option maxRecDepth 1000000 in
theorem g5 : ([3, 3].all fun u => !Tryz.prog.wantsStandIn u) = true := by kernel_rfl
theorem proved : Rows.FnExactConnNewCardSaid :=
 Claim7.holds_tied_plain_at .later [] [.data, .pinned] true (true, "8f24e93a5115bad4f4c94a0b5f5a75ad1ca9f5b4efd08f1f305345e4edbd5b79") false
  over (fun _ h => by cases h) g0 (fun _ h => by cases h) fnExactConnNew_row_tie rfl ⟨rfl, rfl⟩ g1 rfl
  (fun f fn hf hfn => by
   obtain rfl : f = 7 := Option.some.inj (g4.symm.trans hf) |>.symm
   obtain rfl : fn = Tryz.f7 := (Option.some.inj (Tryz.func7.symm.trans hfn)).symm
   exact ⟨g2, fun j t ht => by
    rw [Tryz.params7] at ht
    have hm : t ∈ [3, 3] := by simpa using Array.mem_of_getElem? ht
    have hall : ([3, 3].all fun u => !Tryz.prog.wantsStandIn u) = true := g5
    exact (show Tryz.prog.wantsStandIn t = false by simpa using List.all_eq_true.1 hall t hm)⟩)
  g3
#print axioms proved
end Go.Proofs.YtjiahcekpohehaaGreatDoor.fnExactConnNew
namespace Go.Proofs.YtjiahcekpohehaaGreatDoor
theorem fnExactConnNew_holds : Rows.FnExactConnNewCardSaid := fnExactConnNew.proved
end Go.Proofs.YtjiahcekpohehaaGreatDoor
