/- What a contract's function answers: texts. -/
import Derived.Test.YtnkelipioodhjaaDoorAbs
import Derived.Lib.ValidLaws
set_option linter.unusedVariables false
namespace Go.Proofs.YtnkelipioodhjaaDoor.Abs
open Go

/-- A text: each sign is whole, none is 0. -/
def textGo : Nat → List UInt8 → Bool
  | 0, _ => true
  | n + 1, l => if l = [] then true else if (Lib.decodeL l).1 = 65533 ∧ (Lib.decodeL l).2 = 1 then false else if (Lib.decodeL l).1 = 0 then false else textGo n (l.drop (Lib.decodeL l).2)
def vTextOk (s : ByteArray) : Bool := decide (s.size ≤ 60) && textGo s.size s.data.toList
/-- impl.TextOk. -/
def ext48 (ty : Nat) (vs : List AV) : Option AV :=
  match vs with
  | [.sc (.string s)] => if s.size ≤ maxLen then some (.sc (.bool (vTextOk s))) else none
  | _ => none

end Go.Proofs.YtnkelipioodhjaaDoor.Abs
