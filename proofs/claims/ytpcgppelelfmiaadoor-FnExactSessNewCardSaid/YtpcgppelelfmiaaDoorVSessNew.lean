/- SessNew, as both sides have it. -/
import Derived.Test.YtpcgppelelfmiaaDoorVS
import Derived.Test.YtpcgppelelfmiaaDoorMk
set_option linter.unusedVariables false
set_option linter.unusedSimpArgs false
set_option maxRecDepth 100000
namespace Go.Proofs.YtpcgppelelfmiaaDoor.Abs
open Go

def zS : List AV := [.sc (.string ⟨#[]⟩), .sc (.int .i64 0), .sc (.bool false), .sc (.int .i64 0), .sc (.int .i64 0), .sc (.int .i64 0), .nl, .nl, .nl]
def sessZ : SessV := ⟨⟨#[]⟩, 0, false, 0, 0, ⟨0, [], []⟩, []⟩
def sessO (c : ByteArray) (b : Int) (cl : Bool) (cn g : Int) : SessV := ⟨c, b, cl, cn, g, ⟨0, [], []⟩, []⟩
def vSessNew (c : ByteArray) (b : Int) (cl : Bool) (cn g : Int) : SessV := if vSessOk (sessO c b cl cn g) then sessO c b cl cn g else sessZ
def rawSess (c : ByteArray) (b : Int) (cl : Bool) (cn g : Int) : List AV := [.sc (.string c), .sc (.int .i64 b), .sc (.bool cl), .sc (.int .i64 cn), .sc (.int .i64 g), .sc (.int .i64 0), .nl, .nl, .nl]
theorem own_raw (H : Heap) (c : ByteArray) (b : Int) (cl : Bool) (cn g : Int) : ownTree ti0 E0.tp 55 H (.agg (rawSess c b cl cn g)) = some (.agg (encSess (sessO c b cl cn g))) := by
  obtain ⟨i, hi, hc⟩ := tySess
  rw [ownTree, ownT_agg, hi, Option.bind_some, hc]
  rfl
theorem sessNew_any {n g : Nat} {c : ByteArray} {b : Int} {cl : Bool} {cn gn : Int} {ok : Bool} (hg : plainF g = false) (tO : tree E0 n 4 g [.agg (encSess (sessO c b cl cn gn))] = some (.sc (.bool ok))) :
    (pNew zS [] fun t10 H => (fillA zS [(0, 1, .sc (.string c)), (1, 1, .sc (.int .i64 b)), (2, 1, .sc (.bool cl)), (3, 1, .sc (.int .i64 cn)), (4, 1, .sc (.int .i64 gn))]).bind fun ct17 => pNew zS H fun t11 H => pStore 9 t11 (.agg ct17) H fun H => pLoad true 9 t11 H fun t18 => (PR n AV).call 4 (.fn g [] []) [t18] H fun t19 H => pUn .not t19 fun t20 => pCond t20
      ((fillA zS []).bind fun ct21 => pStore 9 t10 (.agg ct21) H fun H => pLoad true 9 t10 H fun r0 => ownTree ti0 E0.tp 55 H r0)
      (pLoad true 9 t11 H fun t22 => pStore 9 t10 t22 H fun H => pLoad true 9 t10 H fun r0 => ownTree ti0 E0.tp 55 H r0)) =
    some (.agg (encSess (if ok then sessO c b cl cn gn else sessZ))) := by
  have hf : fillA zS [(0, 1, .sc (.string c)), (1, 1, .sc (.int .i64 b)), (2, 1, .sc (.bool cl)), (3, 1, .sc (.int .i64 cn)), (4, 1, .sc (.int .i64 gn))] = some (rawSess c b cl cn gn) := rfl
  simp only [pNew, hf, Option.bind_some, List.nil_append, List.length_nil]
  rw [show ([⟨zS, true, true⟩] : Heap).length = 1 from rfl]
  have hc : cellsA (.agg (rawSess c b cl cn gn)) = some (rawSess c b cl cn gn) := rfl
  rw [st_at 9 1 0 _ ⟨zS, true, true⟩ (rawSess c b cl cn gn) _ _ rfl hc rfl (Nat.le_of_ble_eq_true rfl) rfl]
  refine w_ldA (ds := rawSess c b cl cn gn) (cs := rawSess c b cl cn gn) rfl (Nat.le_of_ble_eq_true rfl) rfl ?_
  refine lw_sc hg (vs := [.agg (encSess (sessO c b cl cn gn))]) rfl tO ?_
  refine w_not ?_
  cases ok
  · refine w_cT rfl ?_
    have hf2 : fillA zS [] = some zS := rfl
    rw [hf2, Option.bind_some]
    rw [st_at 9 0 0 _ ⟨zS, true, true⟩ zS _ _ rfl rfl rfl (Nat.le_of_ble_eq_true rfl) rfl]
    refine w_ldA (ds := zS) (cs := zS) rfl (Nat.le_of_ble_eq_true rfl) rfl ?_
    exact own_raw _ ⟨#[]⟩ 0 false 0 0
  · refine w_cF rfl ?_
    refine w_ldA (ds := rawSess c b cl cn gn) (cs := rawSess c b cl cn gn) rfl (Nat.le_of_ble_eq_true rfl) rfl ?_
    rw [st_at 9 0 0 _ ⟨zS, true, true⟩ (rawSess c b cl cn gn) _ _ rfl hc rfl (Nat.le_of_ble_eq_true rfl) rfl]
    refine w_ldA (ds := rawSess c b cl cn gn) (cs := rawSess c b cl cn gn) rfl (Nat.le_of_ble_eq_true rfl) rfl ?_
    exact own_raw _ c b cl cn gn
theorem specF_SessNew (n : Nat) (hn : 1048576 < n) (x0 : ByteArray) (x1 : Int) (x2 : Bool) (x3 x4 : Int) (k0 : okS x0) (k1 : okI x1) (k2 : True) (k3 : okI x3) (k4 : okI x4) (b0 : x0.size ≤ 1048576) : tree E0 (n + 12) 55 48 [.sc (.string x0), .sc (.int .i64 x1), .sc (.bool x2), .sc (.int .i64 x3), .sc (.int .i64 x4)] = some (.agg (encSess (vSessNew x0 x1 x2 x3 x4))) := by
  rw [tree_def, f48_eq, f48]
  simp only [PR_new, PR_load, PR_store, PR_fill, PR_un, PR_cond]
  exact sessNew_any rfl (specSessF n hn _ (sessO x0 x1 x2 x3 x4) b0 (Nat.zero_le _) (Nat.zero_le _))
theorem implF_SessNew (n : Nat) (hn : 1048576 < n) (x0 : ByteArray) (x1 : Int) (x2 : Bool) (x3 x4 : Int) (k0 : okS x0) (k1 : okI x1) (k2 : True) (k3 : okI x3) (k4 : okI x4) (b0 : x0.size ≤ 1048576) : tree E0 (n + 12) 55 49 [.sc (.string x0), .sc (.int .i64 x1), .sc (.bool x2), .sc (.int .i64 x3), .sc (.int .i64 x4)] = some (.agg (encSess (vSessNew x0 x1 x2 x3 x4))) := by
  rw [tree_def, f49_eq, f49]
  simp only [PR_new, PR_load, PR_store, PR_fill, PR_un, PR_cond]
  exact sessNew_any rfl (implSessF n hn _ (sessO x0 x1 x2 x3 x4) b0 (Nat.zero_le _) (Nat.zero_le _))
theorem sessNew_wt (x0 : ByteArray) (x1 : Int) (x2 : Bool) (x3 x4 : Int) (b0 : x0.size ≤ 1048576) : wtSess (vSessNew x0 x1 x2 x3 x4) ≤ 1048576 := by
  unfold vSessNew
  split
  · exact b0
  · exact Nat.zero_le _
theorem resF_SessNew_0 (x0 : ByteArray) (x1 : Int) (x2 : Bool) (x3 x4 : Int) (b0 : x0.size ≤ 1048576) : wtSess (vSessNew x0 x1 x2 x3 x4) ≤ 1048576 ∧ smSess (vSessNew x0 x1 x2 x3 x4) := ⟨sessNew_wt x0 x1 x2 x3 x4 b0, smwSess _ (sessNew_wt x0 x1 x2 x3 x4 b0)⟩

end Go.Proofs.YtpcgppelelfmiaaDoor.Abs
