/- Mine, of a session. -/
import Derived.Test.YtgidofkechabbaaTypes
import Derived.Test.YtgidofkechabbaaKitC
set_option linter.unusedVariables false
set_option linter.unusedSimpArgs false
namespace Go.Proofs.Ytgidofkechabbaa.Abs
open Go

def vMine (s : SessV) (c g : Int) : Bool := if s.fConn == c then s.fGen == g else false

theorem mine_run {n : Nat} (f : Nat) (s : SessV) (c g : Int) (tb : Nat) (hf : ∀ H k, evalFn E0 (n + 1) AV f [.agg (encSess s), .sc (.int .i64 c), .sc (.int .i64 g)] H k = f42 (PR n AV) n (.agg (encSess s)) (.sc (.int .i64 c)) (.sc (.int .i64 g)) H k) :
    tree E0 (n + 1) tb f [.agg (encSess s), .sc (.int .i64 c), .sc (.int .i64 g)] = some (.sc (.bool (vMine s c g))) := by
  rw [tree_def, hf, f42]
  simp only [PR_box, PR_fadr, PR_load, PR_bin, PR_guard, PR_pick]
  rw [box_fl _ _ _ (flSess s)]
  simp only [List.length_nil, List.nil_append, pFadr, Nat.zero_add]
  rw [ldF (c := .sc (.int .i64 s.fConn)) rfl]
  rw [eql64]
  unfold vMine
  cases s.fConn == c with
  | false => rfl
  | true => rfl

theorem specF_Mine (n : Nat) (hn : 1048576 < n) (s : SessV) (c g : Int) (k0 : okSess s) (k1 : okI c) (k2 : okI g) (h : wtSess s ≤ 1048576) : tree E0 (n + 2) 4 42 [.agg (encSess s), .sc (.int .i64 c), .sc (.int .i64 g)] = some (.sc (.bool (vMine s c g))) :=
  mine_run _ s c g _ fun H k => f42_eq _ _ _ _ H k
theorem implF_Mine (n : Nat) (hn : 1048576 < n) (s : SessV) (c g : Int) (k0 : okSess s) (k1 : okI c) (k2 : okI g) (h : wtSess s ≤ 1048576) : tree E0 (n + 2) 4 44 [.agg (encSess s), .sc (.int .i64 c), .sc (.int .i64 g)] = some (.sc (.bool (vMine s c g))) :=
  mine_run _ s c g _ fun H k => (f44_eq _ _ _ _ H k).trans rfl

end Go.Proofs.Ytgidofkechabbaa.Abs
