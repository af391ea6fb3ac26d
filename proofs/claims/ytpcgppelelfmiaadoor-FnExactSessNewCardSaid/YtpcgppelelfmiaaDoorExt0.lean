/- What the contracts' functions answer: texts, texts cut at each '/', texts in which '+' or '#' stands. -/
import Derived.Test.YtpcgppelelfmiaaDoorLev
import Derived.Lib.ValidLaws
set_option linter.unusedVariables false
namespace Go.Proofs.YtpcgppelelfmiaaDoor.Abs
open Go

/-- A text: each sign is whole, none is 0. -/
def textGo : Nat → List UInt8 → Bool
  | 0, _ => true
  | n + 1, l => if l = [] then true else if (Lib.decodeL l).1 = 65533 ∧ (Lib.decodeL l).2 = 1 then false else if (Lib.decodeL l).1 = 0 then false else textGo n (l.drop (Lib.decodeL l).2)
def vTextOk (s : ByteArray) : Bool := decide (s.size ≤ 60) && textGo s.size s.data.toList
/-- impl.TextOk. -/
def ext96 (ty : Nat) (vs : List AV) : Option AV :=
  match vs with
  | [.sc (.string s)] => if s.size ≤ maxLen then some (.sc (.bool (vTextOk s))) else none
  | _ => none
/-- strings.ContainsAny at "+#". -/
def ext97 (ty : Nat) (vs : List AV) : Option AV :=
  match vs with
  | [.sc (.string s), .sc (.string c)] => if c.data.toList = [43, 35] ∧ s.size < 4294967281 then some (.sc (.bool (vPH s))) else none
  | _ => none
/-- strings.Split at "/". -/
def ext108 (ty : Nat) (vs : List AV) : Option AV :=
  match vs with
  | [.sc (.string s), .sc (.string c)] => if ty = 109 ∧ c.data.toList = [47] ∧ s.size < 4294967281 then some (.ro (vLevels s).length ((vLevels s).map fun x => .sc (.string x))) else none
  | _ => none

end Go.Proofs.YtpcgppelelfmiaaDoor.Abs
