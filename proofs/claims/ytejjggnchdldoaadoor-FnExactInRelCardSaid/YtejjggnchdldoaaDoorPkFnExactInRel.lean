/- The law FnExactInRel and its row: every input, no condition (written by laws.py). -/
import Derived.Test.YtejjggnchdldoaaDoorMd
import Derived.Test.YtejjggnchdldoaaDoorRows
import Derived.Test.YtejjggnchdldoaaDoorTie
import Derived.Test.YtejjggnchdldoaaDoorCards
import Derived.Lib.LaidIn
import Derived.Lib.LaidU8T
import Derived.PinnedBridge
import Derived.SevenTiedAt
import Derived.Deep.DeepHandedRow
import Derived.Deep.DeepWitnessRowRef
import Derived.WalkKit
import Derived.ProofKit
import Derived.OpenShut
import Derived.ShutString
import Derived.ChangeOld
import Derived.Below
import Derived.SizedLaws
set_option linter.unusedVariables false
set_option linter.unusedSimpArgs false
set_option maxRecDepth 100000
set_option maxHeartbeats 3200000
namespace Go.Proofs.YtejjggnchdldoaaDoor.Abs
open Go
def pkId (t i : Int) : PacketV := ⟨t, false, 0, false, i, ⟨#[]⟩, ⟨#[]⟩, ⟨#[]⟩, 0, false, 0, false, ⟨#[]⟩, ⟨#[]⟩, 0, false, false, ⟨#[]⟩, false, ⟨#[]⟩, 0, false, [], [], []⟩
def vWid (t i : Int) : PacketV := if vIn i 1 65535 = true then pkId t i else pkt0
abbrev vRel (i : Int) : PacketV := vWid 6 i
theorem same7 (pc : Bool) (i : Int) : vSamePacket (pkId 7 i) (vNamed pc (pkId 7 i)) = true := by
 simp [vSamePacket, vPkLists, vPkChain, vNamed, pktT, pkId, eqList, all2]
theorem isId6F (n : Nat) (hn : 1048576 < n) (i : Int) : tree E0 (n + 2) 4 57 [.sc (.int .i64 i)] = some (.sc (.bool (vIn i 1 65535))) := by
 rw [tree_def, f57_eq, f57]
 refine tree_gd (G := (· = some (.sc (.bool (vIn i 1 65535))))) ?_
 try simp only [PR_box, PR_new, PR_newSl, PR_fadr, PR_load, PR_store, PR_bin, PR_binB, PR_binA, PR_un, PR_cond, PR_guard, PR_pick, PR_len, PR_lenS, PR_iadr, PR_idx, PR_slice, PR_sliceS, PR_fill, PR_make, PR_app, PR_appS, PR_cvI, PR_cvSS, PR_cvBS, PR_cvSB, PR_extr, PR_nil, PR_clear, PR_fld, PR_apart, PR_same]
 have s0 : Sep [] [] := sep_nil
 refine g_callS (v := (.bool (vIn i 1 65535))) s0 rfl (.cons .sc (.cons .sc (.cons .sc .nil))) (withinF n _ i 1 65535) ?_
 refine g_ret rfl ?_
 first | rfl | (simp_all; done)
theorem specOk7F (n : Nat) (hn : 1048576 < n) (i : Int) : tree E0 (n + 3) 4 56 [.agg (encPacket (pkId 7 i))] = some (.sc (.bool (vIn i 1 65535))) := by
 rw [tree_def, f56_eq, f56]
 refine tree_gd (G := (· = some (.sc (.bool (vIn i 1 65535))))) ?_
 try simp only [PR_box, PR_new, PR_newSl, PR_fadr, PR_load, PR_store, PR_bin, PR_binB, PR_binA, PR_un, PR_cond, PR_guard, PR_pick, PR_len, PR_lenS, PR_iadr, PR_idx, PR_slice, PR_sliceS, PR_fill, PR_make, PR_app, PR_appS, PR_cvI, PR_cvSS, PR_cvBS, PR_cvSB, PR_extr, PR_nil, PR_clear, PR_fld, PR_apart, PR_same]
 have s0 : Sep [] [] := sep_nil
 refine g_box s0 (cells_fl (flPacket _)) fun i1 H s2 => ?_
 refine g_fadr (o' := 0) rfl ?_
 refine g_ld (c := .sc (.int .i64 ((pkId 7 i).fType))) s2 (.here) rfl ?_
 refine g_callS (v := (.bool (vIn ((pkId 7 i).fType) 1 14))) s2 rfl (.cons .sc (.cons .sc (.cons .sc .nil))) (l1InF (n + 1) _ ((pkId 7 i).fType) 1 14) ?_
 refine g_not ?_
 refine g_gY (nF rfl) ?_
 refine g_ldW s2 (.here) rfl ?_
 refine Gd.bothE ?_ ?_
 ·refine g_gY (nF rfl) ?_
  refine g_ldW s2 (.here) rfl ?_
  refine g_gY (nF rfl) ?_
  refine g_hm rfl rfl ?_
  refine specNamedK (n + 1) (by omega) (pkId 7 i) s2 fun Rs3 H hRs3 s3 => ?_
  refine g_gY (nF rfl) ?_
  refine g_callS (v := (.bool (vSamePacket (pkId 7 i) (vNamed true (pkId 7 i))))) s3 rfl (.aggF (flPacket _) (.agg (hRs3 _) .nil)) (specSamePacketF n (by omega) _ (pkId 7 i) (vNamed true (pkId 7 i)) (Nat.zero_le _) (Nat.zero_le _) (Nat.zero_le _)) ?_
  refine g_gY (nF rfl) ?_
  refine g_not ?_
  refine g_pF (nF rfl) ?_
  refine g_cF (nF (same7 true i)) ?_
  refine g_fadr (o' := 4) rfl ?_
  refine g_ld (c := .sc (.int .i64 ((pkId 7 i).fId))) s3 (.here) rfl ?_
  refine g_callS (v := (.bool (vIn ((pkId 7 i).fId) 1 65535))) s3 rfl (.cons .sc (.cons .sc (.cons .sc .nil))) (l1InF (n + 1) _ ((pkId 7 i).fId) 1 65535) ?_
  refine g_fadr (o' := 0) rfl ?_
  refine g_ld (c := .sc (.int .i64 ((pkId 7 i).fType))) s3 (.here) rfl ?_
  refine g_eql ?_
  refine g_cF rfl ?_
  refine g_eql ?_
  refine g_cF rfl ?_
  refine g_eql ?_
  refine g_cF rfl ?_
  refine g_eql ?_
  refine g_letJ ?_
  refine g_cF rfl ?_
  refine g_eql ?_
  refine g_cF rfl ?_
  refine g_eql ?_
  refine g_cF rfl ?_
  refine g_eql ?_
  refine g_cF rfl ?_
  refine g_eql ?_
  refine g_cF rfl ?_
  refine g_eql ?_
  refine g_cF rfl ?_
  refine g_ret rfl ?_
  first | rfl | (simp_all; done)
 ·refine g_gY (nF rfl) ?_
  refine g_hm rfl rfl ?_
  refine specNamedK (n + 1) (by omega) (pkId 7 i) s2 fun Rs4 H hRs4 s4 => ?_
  refine g_gY (nF rfl) ?_
  refine g_ldW s4 (.here) rfl ?_
  refine g_gY (nF rfl) ?_
  refine g_callS (v := (.bool (vSamePacket (pkId 7 i) (vNamed true (pkId 7 i))))) s4 rfl (.aggF (flPacket _) (.agg (hRs4 _) .nil)) (specSamePacketF n (by omega) _ (pkId 7 i) (vNamed true (pkId 7 i)) (Nat.zero_le _) (Nat.zero_le _) (Nat.zero_le _)) ?_
  refine g_gY (nF rfl) ?_
  refine g_not ?_
  refine g_pF (nF rfl) ?_
  refine g_cF (nF (same7 true i)) ?_
  refine g_fadr (o' := 4) rfl ?_
  refine g_ld (c := .sc (.int .i64 ((pkId 7 i).fId))) s4 (.here) rfl ?_
  refine g_callS (v := (.bool (vIn ((pkId 7 i).fId) 1 65535))) s4 rfl (.cons .sc (.cons .sc (.cons .sc .nil))) (l1InF (n + 1) _ ((pkId 7 i).fId) 1 65535) ?_
  refine g_fadr (o' := 0) rfl ?_
  refine g_ld (c := .sc (.int .i64 ((pkId 7 i).fType))) s4 (.here) rfl ?_
  refine g_eql ?_
  refine g_cF rfl ?_
  refine g_eql ?_
  refine g_cF rfl ?_
  refine g_eql ?_
  refine g_cF rfl ?_
  refine g_eql ?_
  refine g_letJ ?_
  refine g_cF rfl ?_
  refine g_eql ?_
  refine g_cF rfl ?_
  refine g_eql ?_
  refine g_cF rfl ?_
  refine g_eql ?_
  refine g_cF rfl ?_
  refine g_eql ?_
  refine g_cF rfl ?_
  refine g_eql ?_
  refine g_cF rfl ?_
  refine g_ret rfl ?_
  first | rfl | (simp_all; done)
theorem specWid7F (n : Nat) (hn : 1048576 < n) (i : Int) : tree E0 (n + 4) 27 27 [.sc (.int .i64 7), .sc (.int .i64 i)] = some (.agg (encPacket (vWid 7 i))) := by
 rw [tree_def, f27_eq, f27]
 refine tree_gd (G := (· = some (.agg (encPacket (vWid 7 i))))) ?_
 try simp only [PR_box, PR_new, PR_newSl, PR_fadr, PR_load, PR_store, PR_bin, PR_binB, PR_binA, PR_un, PR_cond, PR_guard, PR_pick, PR_len, PR_lenS, PR_iadr, PR_idx, PR_slice, PR_sliceS, PR_fill, PR_make, PR_app, PR_appS, PR_cvI, PR_cvSS, PR_cvBS, PR_cvSB, PR_extr, PR_nil, PR_clear, PR_fld, PR_apart, PR_same]
 have s0 : Sep [] [] := sep_nil
 refine g_new s0 fun i1 H s2 => ?_
 refine g_fill (cs := [.sc (.int .i64 7), .sc (.bool false), .sc (.int .i64 0), .sc (.bool false), .sc (.int .i64 i), .sc (.string (⟨#[]⟩)), .nl, .sc (.string (⟨#[]⟩)), .sc (.int .i64 0), .sc (.bool false), .sc (.int .i64 0), .sc (.bool false), .sc (.string (⟨#[]⟩)), .nl, .sc (.int .i64 0), .sc (.bool false), .sc (.bool false), .sc (.string (⟨#[]⟩)), .sc (.bool false), .nl, .sc (.int .i64 0), .sc (.bool false), .nl, .nl, .nl]) rfl ?_
 refine g_new s2 fun i3 H s4 => ?_
 refine g_st (cs' := [.sc (.int .i64 7), .sc (.bool false), .sc (.int .i64 0), .sc (.bool false), .sc (.int .i64 i), .sc (.string (⟨#[]⟩)), .nl, .sc (.string (⟨#[]⟩)), .sc (.int .i64 0), .sc (.bool false), .sc (.int .i64 0), .sc (.bool false), .sc (.string (⟨#[]⟩)), .nl, .sc (.int .i64 0), .sc (.bool false), .sc (.bool false), .sc (.string (⟨#[]⟩)), .sc (.bool false), .nl, .sc (.int .i64 0), .sc (.bool false), .nl, .nl, .nl]) s4 (.here) (cells_agg (lf_c rfl (lf_c rfl (lf_c rfl (lf_c rfl (lf_c rfl (lf_c rfl (lf_c rfl (lf_c rfl (lf_c rfl (lf_c rfl (lf_c rfl (lf_c rfl (lf_c rfl (lf_c rfl (lf_c rfl (lf_c rfl (lf_c rfl (lf_c rfl (lf_c rfl (lf_c rfl (lf_c rfl (lf_c rfl (lf_c rfl (lf_c rfl (lf_c rfl rfl)))))))))))))))))))))))))) rfl (Nat.le_of_ble_eq_true rfl) rfl fun H s5 => ?_
 refine g_callS (v := (.bool (vIn 7 4 7))) s5 rfl (.cons .sc (.cons .sc (.cons .sc .nil))) (l1InF (n + 2) _ 7 4 7) ?_
 refine g_not ?_
 refine g_gN (nF rfl) ?_
 refine g_gN (nF rfl) ?_
 refine g_pF (nF rfl) ?_
 refine g_gY rfl ?_
 refine g_ldW s5 (.here) rfl ?_
 refine g_gY rfl ?_
 refine g_callS (v := (.bool (vIn i 1 65535))) s5 rfl (.agg (.cons .sc (.cons .sc (.cons .sc (.cons .sc (.cons .sc (.cons .sc (.cons .nl (.cons .sc (.cons .sc (.cons .sc (.cons .sc (.cons .sc (.cons .sc (.cons .nl (.cons .sc (.cons .sc (.cons .sc (.cons .sc (.cons .sc (.cons .nl (.cons .sc (.cons .sc (.cons .nl (.cons .nl (.cons .nl .nil))))))))))))))))))))))))) .nil) (specOk7F n (by omega) i) ?_
 refine g_gY rfl ?_
 refine g_not ?_
 refine g_pF rfl ?_
 refine w_split ((vIn i 1 65535)) (fun h6 => ?_) (fun h6 => ?_)
 ·refine g_cF (nF h6) ?_
  refine g_ldW s5 (.here) rfl ?_
  refine g_st (cs' := [.sc (.int .i64 7), .sc (.bool false), .sc (.int .i64 0), .sc (.bool false), .sc (.int .i64 i), .sc (.string (⟨#[]⟩)), .nl, .sc (.string (⟨#[]⟩)), .sc (.int .i64 0), .sc (.bool false), .sc (.int .i64 0), .sc (.bool false), .sc (.string (⟨#[]⟩)), .nl, .sc (.int .i64 0), .sc (.bool false), .sc (.bool false), .sc (.string (⟨#[]⟩)), .sc (.bool false), .nl, .sc (.int .i64 0), .sc (.bool false), .nl, .nl, .nl]) s5 (.there (.here)) (cells_agg (lf_c rfl (lf_c rfl (lf_c rfl (lf_c rfl (lf_c rfl (lf_c rfl (lf_c rfl (lf_c rfl (lf_c rfl (lf_c rfl (lf_c rfl (lf_c rfl (lf_c rfl (lf_c rfl (lf_c rfl (lf_c rfl (lf_c rfl (lf_c rfl (lf_c rfl (lf_c rfl (lf_c rfl (lf_c rfl (lf_c rfl (lf_c rfl (lf_c rfl rfl)))))))))))))))))))))))))) rfl (Nat.le_of_ble_eq_true rfl) rfl fun H s7 => ?_
  refine g_ldW s7 (.here) rfl ?_
  refine g_ret (ret_agg s7 ⟨_, rfl, rfl⟩ (.sc (.sc (.sc (.sc (.sc (.sc (.nl (.sc (.sc (.sc (.sc (.sc (.sc (.nl (.sc (.sc (.sc (.sc (.sc (.nl (.sc (.sc (.nl (.nl (.nl .nil))))))))))))))))))))))))) ⟨trivial, ⟨trivial, ⟨trivial, ⟨trivial, ⟨trivial, ⟨trivial, ⟨(okNl ⟨_, _, rfl, rfl⟩), ⟨trivial, ⟨trivial, ⟨trivial, ⟨trivial, ⟨trivial, ⟨trivial, ⟨(okNl ⟨_, _, rfl, rfl⟩), ⟨trivial, ⟨trivial, ⟨trivial, ⟨trivial, ⟨trivial, ⟨(okNl ⟨_, _, rfl, rfl⟩), ⟨trivial, ⟨trivial, ⟨(okNl ⟨_, _, rfl, rfl⟩), ⟨(okNl ⟨_, _, rfl, rfl⟩), ⟨(okNl ⟨_, _, rfl, rfl⟩), trivial⟩⟩⟩⟩⟩⟩⟩⟩⟩⟩⟩⟩⟩⟩⟩⟩⟩⟩⟩⟩⟩⟩⟩⟩⟩) ?_
  have e8 : vWid 7 i = (⟨7, false, 0, false, i, ⟨#[]⟩, ⟨#[]⟩, ⟨#[]⟩, 0, false, 0, false, ⟨#[]⟩, ⟨#[]⟩, 0, false, false, ⟨#[]⟩, false, ⟨#[]⟩, 0, false, [], [], []⟩ : PacketV) := by
   clear s0 s2 s4 s5 s7
   try simp only [decide_eq_true_eq, decide_eq_false_iff_not, bne_iff_ne, beq_iff_eq, beq_eq_false_iff_ne] at h6
   first | assumption | (simp only [vWid, pkId, pkt0, h6, if_true, if_false, Bool.false_eq_true]; first | done | rfl)
  rw [e8]
  first | done | rfl
 ·refine g_cT (nT h6) ?_
  refine g_fill (cs := [.sc (.int .i64 0), .sc (.bool false), .sc (.int .i64 0), .sc (.bool false), .sc (.int .i64 0), .sc (.string (⟨#[]⟩)), .nl, .sc (.string (⟨#[]⟩)), .sc (.int .i64 0), .sc (.bool false), .sc (.int .i64 0), .sc (.bool false), .sc (.string (⟨#[]⟩)), .nl, .sc (.int .i64 0), .sc (.bool false), .sc (.bool false), .sc (.string (⟨#[]⟩)), .sc (.bool false), .nl, .sc (.int .i64 0), .sc (.bool false), .nl, .nl, .nl]) rfl ?_
  refine g_st (cs' := [.sc (.int .i64 0), .sc (.bool false), .sc (.int .i64 0), .sc (.bool false), .sc (.int .i64 0), .sc (.string (⟨#[]⟩)), .nl, .sc (.string (⟨#[]⟩)), .sc (.int .i64 0), .sc (.bool false), .sc (.int .i64 0), .sc (.bool false), .sc (.string (⟨#[]⟩)), .nl, .sc (.int .i64 0), .sc (.bool false), .sc (.bool false), .sc (.string (⟨#[]⟩)), .sc (.bool false), .nl, .sc (.int .i64 0), .sc (.bool false), .nl, .nl, .nl]) s5 (.there (.here)) (cells_agg (lf_c rfl (lf_c rfl (lf_c rfl (lf_c rfl (lf_c rfl (lf_c rfl (lf_c rfl (lf_c rfl (lf_c rfl (lf_c rfl (lf_c rfl (lf_c rfl (lf_c rfl (lf_c rfl (lf_c rfl (lf_c rfl (lf_c rfl (lf_c rfl (lf_c rfl (lf_c rfl (lf_c rfl (lf_c rfl (lf_c rfl (lf_c rfl (lf_c rfl rfl)))))))))))))))))))))))))) rfl (Nat.le_of_ble_eq_true rfl) rfl fun H s9 => ?_
  refine g_ldW s9 (.here) rfl ?_
  refine g_ret (ret_agg s9 ⟨_, rfl, rfl⟩ (.sc (.sc (.sc (.sc (.sc (.sc (.nl (.sc (.sc (.sc (.sc (.sc (.sc (.nl (.sc (.sc (.sc (.sc (.sc (.nl (.sc (.sc (.nl (.nl (.nl .nil))))))))))))))))))))))))) ⟨trivial, ⟨trivial, ⟨trivial, ⟨trivial, ⟨trivial, ⟨trivial, ⟨(okNl ⟨_, _, rfl, rfl⟩), ⟨trivial, ⟨trivial, ⟨trivial, ⟨trivial, ⟨trivial, ⟨trivial, ⟨(okNl ⟨_, _, rfl, rfl⟩), ⟨trivial, ⟨trivial, ⟨trivial, ⟨trivial, ⟨trivial, ⟨(okNl ⟨_, _, rfl, rfl⟩), ⟨trivial, ⟨trivial, ⟨(okNl ⟨_, _, rfl, rfl⟩), ⟨(okNl ⟨_, _, rfl, rfl⟩), ⟨(okNl ⟨_, _, rfl, rfl⟩), trivial⟩⟩⟩⟩⟩⟩⟩⟩⟩⟩⟩⟩⟩⟩⟩⟩⟩⟩⟩⟩⟩⟩⟩⟩⟩) ?_
  have e10 : vWid 7 i = (⟨0, false, 0, false, 0, ⟨#[]⟩, ⟨#[]⟩, ⟨#[]⟩, 0, false, 0, false, ⟨#[]⟩, ⟨#[]⟩, 0, false, false, ⟨#[]⟩, false, ⟨#[]⟩, 0, false, [], [], []⟩ : PacketV) := by
   clear s0 s2 s4 s5 s9
   try simp only [decide_eq_true_eq, decide_eq_false_iff_not, bne_iff_ne, beq_iff_eq, beq_eq_false_iff_ne] at h6
   first | assumption | (simp only [vWid, pkId, pkt0, h6, if_true, if_false, Bool.false_eq_true]; first | done | rfl)
  rw [e10]
  first | done | rfl
theorem implOk7F (n : Nat) (hn : 1048576 < n) (i : Int) : tree E0 (n + 3) 4 60 [.agg (encPacket (pkId 7 i))] = some (.sc (.bool (vIn i 1 65535))) := by
 rw [tree_def, f60_eq, f60]
 refine tree_gd (G := (· = some (.sc (.bool (vIn i 1 65535))))) ?_
 try simp only [PR_box, PR_new, PR_newSl, PR_fadr, PR_load, PR_store, PR_bin, PR_binB, PR_binA, PR_un, PR_cond, PR_guard, PR_pick, PR_len, PR_lenS, PR_iadr, PR_idx, PR_slice, PR_sliceS, PR_fill, PR_make, PR_app, PR_appS, PR_cvI, PR_cvSS, PR_cvBS, PR_cvSB, PR_extr, PR_nil, PR_clear, PR_fld, PR_apart, PR_same]
 have s0 : Sep [] [] := sep_nil
 refine g_box s0 (cells_fl (flPacket _)) fun i1 H s2 => ?_
 refine g_fadr (o' := 0) rfl ?_
 refine g_ld (c := .sc (.int .i64 ((pkId 7 i).fType))) s2 (.here) rfl ?_
 refine g_callS (v := (.bool (vIn ((pkId 7 i).fType) 1 14))) s2 rfl (.cons .sc (.cons .sc (.cons .sc .nil))) (withinF (n + 1) _ ((pkId 7 i).fType) 1 14) ?_
 refine g_not ?_
 refine g_gY (nF rfl) ?_
 refine g_ldW s2 (.here) rfl ?_
 refine Gd.bothE ?_ ?_
 ·refine g_gY (nF rfl) ?_
  refine g_ldW s2 (.here) rfl ?_
  refine g_gY (nF rfl) ?_
  refine g_hm rfl rfl ?_
  refine implNamedK (n + 1) (by omega) (pkId 7 i) s2 fun Rs3 H hRs3 s3 => ?_
  refine g_gY (nF rfl) ?_
  refine g_callS (v := (.bool (vSamePacket (pkId 7 i) (vNamed false (pkId 7 i))))) s3 rfl (.aggF (flPacket _) (.agg (hRs3 _) .nil)) (implSamePacketF n (by omega) _ (pkId 7 i) (vNamed false (pkId 7 i)) (Nat.zero_le _) (Nat.zero_le _) (Nat.zero_le _)) ?_
  refine g_gY (nF rfl) ?_
  refine g_not ?_
  refine g_pF (nF rfl) ?_
  refine g_cF (nF (same7 false i)) ?_
  refine g_fadr (o' := 0) rfl ?_
  refine g_ld (c := .sc (.int .i64 ((pkId 7 i).fType))) s3 (.here) rfl ?_
  refine g_eql ?_
  refine g_cF rfl ?_
  refine g_eql ?_
  refine g_cF rfl ?_
  refine g_eql ?_
  refine g_cF rfl ?_
  refine g_eql ?_
  refine g_letJ ?_
  refine g_cF rfl ?_
  refine g_eql ?_
  refine g_cF rfl ?_
  refine g_eql ?_
  refine g_cF rfl ?_
  refine g_eql ?_
  refine g_cT rfl ?_
  refine g_cT rfl ?_
  refine g_fadr (o' := 4) rfl ?_
  refine g_ld (c := .sc (.int .i64 ((pkId 7 i).fId))) s3 (.here) rfl ?_
  refine g_callS (v := (.bool (vIn ((pkId 7 i).fId) 1 65535))) s3 rfl (.cons .sc .nil) (isId6F n (by omega) ((pkId 7 i).fId)) ?_
  refine g_ret rfl ?_
  first | rfl | (simp_all; done)
 ·refine g_gY (nF rfl) ?_
  refine g_hm rfl rfl ?_
  refine implNamedK (n + 1) (by omega) (pkId 7 i) s2 fun Rs4 H hRs4 s4 => ?_
  refine g_gY (nF rfl) ?_
  refine g_ldW s4 (.here) rfl ?_
  refine g_gY (nF rfl) ?_
  refine g_callS (v := (.bool (vSamePacket (pkId 7 i) (vNamed false (pkId 7 i))))) s4 rfl (.aggF (flPacket _) (.agg (hRs4 _) .nil)) (implSamePacketF n (by omega) _ (pkId 7 i) (vNamed false (pkId 7 i)) (Nat.zero_le _) (Nat.zero_le _) (Nat.zero_le _)) ?_
  refine g_gY (nF rfl) ?_
  refine g_not ?_
  refine g_pF (nF rfl) ?_
  refine g_cF (nF (same7 false i)) ?_
  refine g_fadr (o' := 0) rfl ?_
  refine g_ld (c := .sc (.int .i64 ((pkId 7 i).fType))) s4 (.here) rfl ?_
  refine g_eql ?_
  refine g_cF rfl ?_
  refine g_eql ?_
  refine g_cF rfl ?_
  refine g_eql ?_
  refine g_cF rfl ?_
  refine g_eql ?_
  refine g_letJ ?_
  refine g_cF rfl ?_
  refine g_eql ?_
  refine g_cF rfl ?_
  refine g_eql ?_
  refine g_cF rfl ?_
  refine g_eql ?_
  refine g_cT rfl ?_
  refine g_cT rfl ?_
  refine g_fadr (o' := 4) rfl ?_
  refine g_ld (c := .sc (.int .i64 ((pkId 7 i).fId))) s4 (.here) rfl ?_
  refine g_callS (v := (.bool (vIn ((pkId 7 i).fId) 1 65535))) s4 rfl (.cons .sc .nil) (isId6F n (by omega) ((pkId 7 i).fId)) ?_
  refine g_ret rfl ?_
  first | rfl | (simp_all; done)
theorem implWid7F (n : Nat) (hn : 1048576 < n) (i : Int) : tree E0 (n + 4) 27 32 [.sc (.int .i64 7), .sc (.int .i64 i)] = some (.agg (encPacket (vWid 7 i))) := by
 rw [tree_def, f32_eq, f32]
 refine tree_gd (G := (· = some (.agg (encPacket (vWid 7 i))))) ?_
 try simp only [PR_box, PR_new, PR_newSl, PR_fadr, PR_load, PR_store, PR_bin, PR_binB, PR_binA, PR_un, PR_cond, PR_guard, PR_pick, PR_len, PR_lenS, PR_iadr, PR_idx, PR_slice, PR_sliceS, PR_fill, PR_make, PR_app, PR_appS, PR_cvI, PR_cvSS, PR_cvBS, PR_cvSB, PR_extr, PR_nil, PR_clear, PR_fld, PR_apart, PR_same]
 have s0 : Sep [] [] := sep_nil
 refine g_new s0 fun i1 H s2 => ?_
 refine g_fill (cs := [.sc (.int .i64 7), .sc (.bool false), .sc (.int .i64 0), .sc (.bool false), .sc (.int .i64 i), .sc (.string (⟨#[]⟩)), .nl, .sc (.string (⟨#[]⟩)), .sc (.int .i64 0), .sc (.bool false), .sc (.int .i64 0), .sc (.bool false), .sc (.string (⟨#[]⟩)), .nl, .sc (.int .i64 0), .sc (.bool false), .sc (.bool false), .sc (.string (⟨#[]⟩)), .sc (.bool false), .nl, .sc (.int .i64 0), .sc (.bool false), .nl, .nl, .nl]) rfl ?_
 refine g_new s2 fun i3 H s4 => ?_
 refine g_st (cs' := [.sc (.int .i64 7), .sc (.bool false), .sc (.int .i64 0), .sc (.bool false), .sc (.int .i64 i), .sc (.string (⟨#[]⟩)), .nl, .sc (.string (⟨#[]⟩)), .sc (.int .i64 0), .sc (.bool false), .sc (.int .i64 0), .sc (.bool false), .sc (.string (⟨#[]⟩)), .nl, .sc (.int .i64 0), .sc (.bool false), .sc (.bool false), .sc (.string (⟨#[]⟩)), .sc (.bool false), .nl, .sc (.int .i64 0), .sc (.bool false), .nl, .nl, .nl]) s4 (.here) (cells_agg (lf_c rfl (lf_c rfl (lf_c rfl (lf_c rfl (lf_c rfl (lf_c rfl (lf_c rfl (lf_c rfl (lf_c rfl (lf_c rfl (lf_c rfl (lf_c rfl (lf_c rfl (lf_c rfl (lf_c rfl (lf_c rfl (lf_c rfl (lf_c rfl (lf_c rfl (lf_c rfl (lf_c rfl (lf_c rfl (lf_c rfl (lf_c rfl (lf_c rfl rfl)))))))))))))))))))))))))) rfl (Nat.le_of_ble_eq_true rfl) rfl fun H s5 => ?_
 refine g_callS (v := (.bool (vIn 7 4 7))) s5 rfl (.cons .sc (.cons .sc (.cons .sc .nil))) (withinF (n + 2) _ 7 4 7) ?_
 refine g_not ?_
 refine g_gN (nF rfl) ?_
 refine g_gN (nF rfl) ?_
 refine g_pF (nF rfl) ?_
 refine g_gY rfl ?_
 refine g_ldW s5 (.here) rfl ?_
 refine g_gY rfl ?_
 refine g_callS (v := (.bool (vIn i 1 65535))) s5 rfl (.agg (.cons .sc (.cons .sc (.cons .sc (.cons .sc (.cons .sc (.cons .sc (.cons .nl (.cons .sc (.cons .sc (.cons .sc (.cons .sc (.cons .sc (.cons .sc (.cons .nl (.cons .sc (.cons .sc (.cons .sc (.cons .sc (.cons .sc (.cons .nl (.cons .sc (.cons .sc (.cons .nl (.cons .nl (.cons .nl .nil))))))))))))))))))))))))) .nil) (implOk7F n (by omega) i) ?_
 refine g_gY rfl ?_
 refine g_not ?_
 refine g_pF rfl ?_
 refine w_split ((vIn i 1 65535)) (fun h6 => ?_) (fun h6 => ?_)
 ·refine g_cF (nF h6) ?_
  refine g_ldW s5 (.here) rfl ?_
  refine g_st (cs' := [.sc (.int .i64 7), .sc (.bool false), .sc (.int .i64 0), .sc (.bool false), .sc (.int .i64 i), .sc (.string (⟨#[]⟩)), .nl, .sc (.string (⟨#[]⟩)), .sc (.int .i64 0), .sc (.bool false), .sc (.int .i64 0), .sc (.bool false), .sc (.string (⟨#[]⟩)), .nl, .sc (.int .i64 0), .sc (.bool false), .sc (.bool false), .sc (.string (⟨#[]⟩)), .sc (.bool false), .nl, .sc (.int .i64 0), .sc (.bool false), .nl, .nl, .nl]) s5 (.there (.here)) (cells_agg (lf_c rfl (lf_c rfl (lf_c rfl (lf_c rfl (lf_c rfl (lf_c rfl (lf_c rfl (lf_c rfl (lf_c rfl (lf_c rfl (lf_c rfl (lf_c rfl (lf_c rfl (lf_c rfl (lf_c rfl (lf_c rfl (lf_c rfl (lf_c rfl (lf_c rfl (lf_c rfl (lf_c rfl (lf_c rfl (lf_c rfl (lf_c rfl (lf_c rfl rfl)))))))))))))))))))))))))) rfl (Nat.le_of_ble_eq_true rfl) rfl fun H s7 => ?_
  refine g_ldW s7 (.here) rfl ?_
  refine g_ret (ret_agg s7 ⟨_, rfl, rfl⟩ (.sc (.sc (.sc (.sc (.sc (.sc (.nl (.sc (.sc (.sc (.sc (.sc (.sc (.nl (.sc (.sc (.sc (.sc (.sc (.nl (.sc (.sc (.nl (.nl (.nl .nil))))))))))))))))))))))))) ⟨trivial, ⟨trivial, ⟨trivial, ⟨trivial, ⟨trivial, ⟨trivial, ⟨(okNl ⟨_, _, rfl, rfl⟩), ⟨trivial, ⟨trivial, ⟨trivial, ⟨trivial, ⟨trivial, ⟨trivial, ⟨(okNl ⟨_, _, rfl, rfl⟩), ⟨trivial, ⟨trivial, ⟨trivial, ⟨trivial, ⟨trivial, ⟨(okNl ⟨_, _, rfl, rfl⟩), ⟨trivial, ⟨trivial, ⟨(okNl ⟨_, _, rfl, rfl⟩), ⟨(okNl ⟨_, _, rfl, rfl⟩), ⟨(okNl ⟨_, _, rfl, rfl⟩), trivial⟩⟩⟩⟩⟩⟩⟩⟩⟩⟩⟩⟩⟩⟩⟩⟩⟩⟩⟩⟩⟩⟩⟩⟩⟩) ?_
  have e8 : vWid 7 i = (⟨7, false, 0, false, i, ⟨#[]⟩, ⟨#[]⟩, ⟨#[]⟩, 0, false, 0, false, ⟨#[]⟩, ⟨#[]⟩, 0, false, false, ⟨#[]⟩, false, ⟨#[]⟩, 0, false, [], [], []⟩ : PacketV) := by
   clear s0 s2 s4 s5 s7
   try simp only [decide_eq_true_eq, decide_eq_false_iff_not, bne_iff_ne, beq_iff_eq, beq_eq_false_iff_ne] at h6
   first | assumption | (simp only [vWid, pkId, pkt0, h6, if_true, if_false, Bool.false_eq_true]; first | done | rfl)
  rw [e8]
  first | done | rfl
 ·refine g_cT (nT h6) ?_
  refine g_fill (cs := [.sc (.int .i64 0), .sc (.bool false), .sc (.int .i64 0), .sc (.bool false), .sc (.int .i64 0), .sc (.string (⟨#[]⟩)), .nl, .sc (.string (⟨#[]⟩)), .sc (.int .i64 0), .sc (.bool false), .sc (.int .i64 0), .sc (.bool false), .sc (.string (⟨#[]⟩)), .nl, .sc (.int .i64 0), .sc (.bool false), .sc (.bool false), .sc (.string (⟨#[]⟩)), .sc (.bool false), .nl, .sc (.int .i64 0), .sc (.bool false), .nl, .nl, .nl]) rfl ?_
  refine g_st (cs' := [.sc (.int .i64 0), .sc (.bool false), .sc (.int .i64 0), .sc (.bool false), .sc (.int .i64 0), .sc (.string (⟨#[]⟩)), .nl, .sc (.string (⟨#[]⟩)), .sc (.int .i64 0), .sc (.bool false), .sc (.int .i64 0), .sc (.bool false), .sc (.string (⟨#[]⟩)), .nl, .sc (.int .i64 0), .sc (.bool false), .sc (.bool false), .sc (.string (⟨#[]⟩)), .sc (.bool false), .nl, .sc (.int .i64 0), .sc (.bool false), .nl, .nl, .nl]) s5 (.there (.here)) (cells_agg (lf_c rfl (lf_c rfl (lf_c rfl (lf_c rfl (lf_c rfl (lf_c rfl (lf_c rfl (lf_c rfl (lf_c rfl (lf_c rfl (lf_c rfl (lf_c rfl (lf_c rfl (lf_c rfl (lf_c rfl (lf_c rfl (lf_c rfl (lf_c rfl (lf_c rfl (lf_c rfl (lf_c rfl (lf_c rfl (lf_c rfl (lf_c rfl (lf_c rfl rfl)))))))))))))))))))))))))) rfl (Nat.le_of_ble_eq_true rfl) rfl fun H s9 => ?_
  refine g_ldW s9 (.here) rfl ?_
  refine g_ret (ret_agg s9 ⟨_, rfl, rfl⟩ (.sc (.sc (.sc (.sc (.sc (.sc (.nl (.sc (.sc (.sc (.sc (.sc (.sc (.nl (.sc (.sc (.sc (.sc (.sc (.nl (.sc (.sc (.nl (.nl (.nl .nil))))))))))))))))))))))))) ⟨trivial, ⟨trivial, ⟨trivial, ⟨trivial, ⟨trivial, ⟨trivial, ⟨(okNl ⟨_, _, rfl, rfl⟩), ⟨trivial, ⟨trivial, ⟨trivial, ⟨trivial, ⟨trivial, ⟨trivial, ⟨(okNl ⟨_, _, rfl, rfl⟩), ⟨trivial, ⟨trivial, ⟨trivial, ⟨trivial, ⟨trivial, ⟨(okNl ⟨_, _, rfl, rfl⟩), ⟨trivial, ⟨trivial, ⟨(okNl ⟨_, _, rfl, rfl⟩), ⟨(okNl ⟨_, _, rfl, rfl⟩), ⟨(okNl ⟨_, _, rfl, rfl⟩), trivial⟩⟩⟩⟩⟩⟩⟩⟩⟩⟩⟩⟩⟩⟩⟩⟩⟩⟩⟩⟩⟩⟩⟩⟩⟩) ?_
  have e10 : vWid 7 i = (⟨0, false, 0, false, 0, ⟨#[]⟩, ⟨#[]⟩, ⟨#[]⟩, 0, false, 0, false, ⟨#[]⟩, ⟨#[]⟩, 0, false, false, ⟨#[]⟩, false, ⟨#[]⟩, 0, false, [], [], []⟩ : PacketV) := by
   clear s0 s2 s4 s5 s9
   try simp only [decide_eq_true_eq, decide_eq_false_iff_not, bne_iff_ne, beq_iff_eq, beq_eq_false_iff_ne] at h6
   first | assumption | (simp only [vWid, pkId, pkt0, h6, if_true, if_false, Bool.false_eq_true]; first | done | rfl)
  rw [e10]
  first | done | rfl
theorem wid_wt (t i : Int) : wtPacket (vWid t i) = 0 := by
 unfold vWid
 split <;> rfl
end Go.Proofs.YtejjggnchdldoaaDoor.Abs
set_option linter.unusedVariables false
set_option linter.unusedSimpArgs false
set_option maxRecDepth 100000
namespace Go.Proofs.YtejjggnchdldoaaDoor.Abs
open Go
section
variable {β : Type} {n : Nat} {H : Heap} {r : Option β}
theorem lw_list {ty f len : Nat} {args vs cells : List AV} {K : AV → Heap → Option β} (hh : plainF f = false) (hv : args.mapM (viewV H 8) = some vs) (ht : tree E0 n ty f vs = some (.ro len cells)) (h : ∀ N X sz, K (.sl N 0 len sz) (H ++ X) = r) : (PR n β).call ty (.fn f [] []) args H (fun x H => K x H) = r := by
 rw [PR_call hh hv ht]
 exact h _ _ _
theorem w_endS {b b' : Bool} (h : b = b') : some (AV.sc (.bool b)) = some (AV.sc (.bool b')) := by rw [h]
theorem w_iadrE {α : Type} {w : Nat} {enc : α → List AV} {l pre t : List α} {x : α} {K : AV → Option β} (hw : ∀ x, (enc x).length = w) (h0 : 0 < w) (hl : l = pre ++ x :: t) (h : K (.rp (enc x ++ (t.map enc).flatten)) = r) : pIadr w (rowsC enc l) (.sc (.int .i64 (pre.length : Int))) (fun t => K t) = r := by
 subst hl
 exact (el_ro (β := β) hw h0 pre x t (fun t => K t)).trans h
theorem w_iadrP {α : Type} {w : Nat} {enc : α → List AV} {l pre t : List α} {K : AV → Option β} (hw : ∀ x, (enc x).length = w) (h0 : 0 < w) (hp : decide ((pre.length : Int) > 0) = true) (hl : l = pre ++ t) (hlen : l.length ≤ 1048576) (h : ∀ y, pre.getLast? = some y → K (.rp (enc y ++ (t.map enc).flatten)) = r) : pIadr w (rowsC enc l) (.sc (.int .i64 (IntKind.i64.wrap ((pre.length : Int) - 1)))) (fun t => K t) = r := by
 cases hg : pre.getLast? with
 | none =>
  rw [List.getLast?_eq_none_iff] at hg
  subst hg
  simp at hp
 | some y =>
  obtain ⟨p, rfl⟩ := List.getLast?_eq_some_iff.1 hg
  have hlp : p.length < 1048576 := by
   rw [hl] at hlen
   simp at hlen
   omega
  have e : IntKind.i64.wrap (((p ++ [y]).length : Int) - 1) = (p.length : Int) := by
   rw [List.length_append, List.length_singleton, wrap64 _ (by omega) (by omega)]
   omega
  rw [e]
  exact w_iadrE hw h0 (hl.trans (by simp)) (h y hg)
theorem w_lenL {id off m w : Nat} {K : AV → Option β} (h : K (.sc (.int .i64 m)) = r) : pLen (.sl id off m w) (fun t => K t) = r := h
end
theorem isIdF (n : Nat) (ty : Nat) (i : Int) : tree E0 (n + 2) ty 57 [.sc (.int .i64 i)] = some (.sc (.bool (vIn i 1 65535))) := by
 rw [tree_def, f57_eq, f57]
 try simp only [PR_box, PR_new, PR_fadr, PR_load, PR_store, PR_bin, PR_binB, PR_binA, PR_un, PR_cond, PR_guard, PR_pick, PR_len, PR_lenS, PR_iadr, PR_idx, PR_slice, PR_sliceS, PR_newSl, PR_fill, PR_make, PR_app, PR_cvI, PR_cvBS]
 refine lw_sc rfl (vcons (Vw_sc _ _) (vcons (Vw_sc _ _) (vcons (Vw_sc _ _) vnil))) (withinF (n + 0) _ i 1 65535) ?_
 exact w_endB (by subst_vars; rfl)
theorem lenI (x : Int) : (encI x).length = 1 := rfl
theorem w_iadrL {α β : Type} {r : Option β} {w : Nat} {enc : α → List AV} {l pre t : List α} {d : α} {K : AV → Option β} (hw : ∀ x, (enc x).length = w) (h0 : 0 < w) (hp : decide ((pre.length : Int) > 0) = true) (hl : l = pre ++ t) (hlen : l.length ≤ 1048576) (h : K (.rp (enc (pre.getLastD d) ++ (t.map enc).flatten)) = r) : pIadr w (rowsC enc l) (.sc (.int .i64 (IntKind.i64.wrap ((pre.length : Int) - 1)))) (fun t => K t) = r := by
 refine w_iadrP hw h0 hp hl hlen fun y hy => ?_
 rw [show pre.getLastD d = y from by rw [List.getLastD_eq_getLast?, hy]; rfl] at h
 exact h
def goIn (l : List Int) : List Int → List Int → Bool
 | pre, [] => decide ((l.length : Int) ≤ 4)
 | pre, x :: r => (vIn x 1 65535 && !(decide ((pre.length : Int) > 0) && decide ((pre.getLastD 0) ≥ x))) && goIn l (pre ++ [x]) r
theorem specIn_loop (n : Nat) (hn : 1048576 < n) (ty : Nat) (l : List Int) (hlen : l.length ≤ 1048576) : ∀ (r pre : List Int) (m : Nat) (H : Heap), l = pre ++ r → r.length < m → f26_l0 (PR (n + 3) AV) (n + 3) (fun x H => ownTree ti0 E0.tp ty H x) m (rowsC encI l) (.sc (.int .i64 pre.length)) H = some (.sc (.bool (goIn l pre r)))
 | [], pre, m + 1, H, hl, hm => by
  have hlt : decide ((pre.length : Int) < (l.length : Int)) = false := by
   rw [hl]
   simp
  show (PR (n + 3) AV).len _ _ = _
  simp only [PR_box, PR_new, PR_fadr, PR_load, PR_store, PR_bin, PR_binB, PR_binA, PR_un, PR_cond, PR_guard, PR_pick, PR_len, PR_lenS, PR_iadr, PR_idx, PR_slice, PR_sliceS, PR_newSl, PR_fill, PR_make, PR_app, PR_cvI, PR_cvBS]
  refine w_len ?_
  refine w_bin (v := .sc (.bool (decide ((pre.length : Int) < (l.length : Int))))) (fun k => rfl) ?_
  refine w_cF hlt ?_
  refine w_len ?_
  refine w_bin (v := .sc (.bool (decide ((l.length : Int) ≤ 4)))) (fun k => rfl) ?_
  exact w_endB (by (try clear ih); (try clear hlt); (try clear hix); (try clear hm); (try clear hmem); (try clear hpl); (try clear hsl); (try clear hlen); (try clear hqn); (try clear hqs); (try clear hs); (try clear B); (try clear B1); (try clear B2); (try clear hl); subst_vars; rw [goIn]; first | done | (cases h1 : vIn x 1 65535 <;> cases h2 : decide ((pre.length : Int) > 0) <;> cases h3 : decide ((pre.getLastD 0) ≥ x) <;> simp [h1, h2, h3] at * <;> first | omega | (simp_all; done) | (simp_all; omega)))
 | x :: r, pre, m + 1, H, hl, hm => by
  have hpl : pre.length < l.length := by rw [hl]; simp
  have hlt : decide ((pre.length : Int) < (l.length : Int)) = true := by simpa using hpl
  have hmem : x ∈ l := by rw [hl]; simp
  have hix : IntKind.i64.wrap ((pre.length : Int) + 1) = (((pre ++ [x]).length : Nat) : Int) := by
   rw [wrap64 _ (by omega) (by omega), List.length_append, List.length_singleton]
   rfl
  show (PR (n + 3) AV).len _ _ = _
  simp only [PR_box, PR_new, PR_fadr, PR_load, PR_store, PR_bin, PR_binB, PR_binA, PR_un, PR_cond, PR_guard, PR_pick, PR_len, PR_lenS, PR_iadr, PR_idx, PR_slice, PR_sliceS, PR_newSl, PR_fill, PR_make, PR_app, PR_cvI, PR_cvBS]
  refine w_len ?_
  refine w_bin (v := .sc (.bool (decide ((pre.length : Int) < (l.length : Int))))) (fun k => rfl) ?_
  refine w_cT hlt ?_
  refine w_iadrE lenI (by decide) hl ?_
  refine w_ld_rp (c := .sc (.int .i64 x)) rfl ?_
  refine lw_sc rfl (vcons (Vw_sc _ _) (vcons (Vw_sc _ _) (vcons (Vw_sc _ _) vnil))) (l1InF (n + 2) _ x 1 65535) ?_
  refine w_not ?_
  apply w_merge ((!(vIn x 1 65535)) || ((decide ((pre.length : Int) > 0)) && (decide ((pre.getLastD 0) ≥ x))))
  ·intro b1 q1
   refine w_split ((vIn x 1 65535)) (fun h1 => ?_) (fun h1 => ?_)
   ·refine w_hT (nF h1) ?_
    refine w_hT (nF h1) ?_
    refine w_bin (v := .sc (.bool (decide ((pre.length : Int) > 0)))) (fun k => rfl) ?_
    refine w_hT (nF h1) ?_
    apply w_merge ((decide ((pre.length : Int) > 0)) && (decide ((pre.getLastD 0) ≥ x)))
    ·intro b2 q2
     refine w_split ((decide ((pre.length : Int) > 0))) (fun h2 => ?_) (fun h2 => ?_)
     ·refine w_gT h2 ?_
      refine w_gT h2 ?_
      refine w_gT h2 ?_
      refine w_bin (v := .sc (.int .i64 (IntKind.i64.wrap ((pre.length : Int) - 1)))) (fun k => rfl) ?_
      refine w_gT h2 ?_
      refine w_iadrL (d := 0) lenI (by decide) h2 hl hlen ?_
      refine w_gT h2 ?_
      refine w_ld_rp (c := .sc (.int .i64 (pre.getLastD 0))) rfl ?_
      refine w_gT h2 ?_
      refine w_gT h2 ?_
      refine w_gT h2 ?_
      refine w_iadrE lenI (by decide) hl ?_
      refine w_gT h2 ?_
      refine w_ld_rp (c := .sc (.int .i64 x)) rfl ?_
      refine w_gT h2 ?_
      refine w_bin (v := .sc (.bool (decide ((pre.getLastD 0) ≥ x)))) (fun k => rfl) ?_
      refine w_hT (nF h1) ?_
      refine w_pTb h2 (mAT q2 h2) ?_
      exact rfl
     ·refine w_gF h2 ?_
      refine w_gF h2 ?_
      refine w_gF h2 ?_
      refine w_gF h2 ?_
      refine w_gF h2 ?_
      refine w_gF h2 ?_
      refine w_gF h2 ?_
      refine w_gF h2 ?_
      refine w_gF h2 ?_
      refine w_gF h2 ?_
      refine w_hT (nF h1) ?_
      refine w_pFb h2 (mAF q2 h2) ?_
      exact rfl
    intro b2 q2
    refine w_pFb (nF h1) (by subst q2; exact mOF q1 (nF h1)) ?_
    exact rfl
   ·refine w_hF (nT h1) ?_
    refine w_hF (nT h1) ?_
    refine w_hF (nT h1) ?_
    refine w_u ?_
    refine w_u ?_
    refine w_u ?_
    refine w_u ?_
    refine w_u ?_
    refine w_u ?_
    refine w_u ?_
    refine w_u ?_
    refine w_u ?_
    refine w_u ?_
    refine w_hF (nT h1) ?_
    refine w_pTb (nT h1) (mOT q1 (nT h1)) ?_
    exact rfl
  intro b1 q1
  refine w_split (b1) (fun h3 => ?_) (fun h3 => ?_)
  ·refine w_cT h3 ?_
   exact w_endB (by (try clear ih); (try clear hlt); (try clear hix); (try clear hm); (try clear hmem); (try clear hpl); (try clear hsl); (try clear hlen); (try clear hqn); (try clear hqs); (try clear hs); (try clear B); (try clear B1); (try clear B2); (try clear hl); subst_vars; rw [goIn]; first | done | (cases h1 : vIn x 1 65535 <;> cases h2 : decide ((pre.length : Int) > 0) <;> cases h3 : decide ((pre.getLastD 0) ≥ x) <;> simp [h1, h2, h3] at * <;> first | omega | (simp_all; done) | (simp_all; omega)))
  ·refine w_cF h3 ?_
   refine w_bin (v := .sc (.int .i64 (IntKind.i64.wrap ((pre.length : Int) + 1)))) (fun k => rfl) ?_
   rw [hix]
   refine (specIn_loop n hn ty l hlen r (pre ++ [x]) m _  (by rw [hl]; simp) (by simpa using hm)).trans (congrArg (fun b => some (AV.sc (Value.bool b))) ?_)
   (try clear ih); (try clear hlt); (try clear hix); (try clear hm); (try clear hmem); (try clear hpl); (try clear hsl); (try clear hlen); (try clear hqn); (try clear hqs); (try clear hs); (try clear B); (try clear B1); (try clear B2); (try clear hl); subst_vars; rw [goIn]; first | done | (cases h1 : vIn x 1 65535 <;> cases h2 : decide ((pre.length : Int) > 0) <;> cases h3 : decide ((pre.getLastD 0) ≥ x) <;> simp [h1, h2, h3] at * <;> first | omega | (simp_all; done) | (simp_all; omega))
theorem implIn_loop (n : Nat) (hn : 1048576 < n) (ty : Nat) (l : List Int) (hlen : l.length ≤ 1048576) : ∀ (r pre : List Int) (m : Nat) (H : Heap), l = pre ++ r → r.length < m → f29_l0 (PR (n + 3) AV) (n + 3) (fun x H => ownTree ti0 E0.tp ty H x) m (rowsC encI l) (rowsC encI l) (.sc (.int .i64 (l.length : Int))) (.sc (.int .i64 pre.length)) H = some (.sc (.bool (goIn l pre r)))
 | [], pre, m + 1, H, hl, hm => by
  have hlt : decide ((pre.length : Int) < (l.length : Int)) = false := by
   rw [hl]
   simp
  show (PR (n + 3) AV).bin _ _ _ _ = _
  simp only [PR_box, PR_new, PR_fadr, PR_load, PR_store, PR_bin, PR_binB, PR_binA, PR_un, PR_cond, PR_guard, PR_pick, PR_len, PR_lenS, PR_iadr, PR_idx, PR_slice, PR_sliceS, PR_newSl, PR_fill, PR_make, PR_app, PR_cvI, PR_cvBS]
  refine w_bin (v := .sc (.bool (decide ((pre.length : Int) < (l.length : Int))))) (fun k => rfl) ?_
  refine w_cF hlt ?_
  refine w_len ?_
  refine w_bin (v := .sc (.bool (decide ((l.length : Int) ≤ 4)))) (fun k => rfl) ?_
  exact w_endB (by (try clear ih); (try clear hlt); (try clear hix); (try clear hm); (try clear hmem); (try clear hpl); (try clear hsl); (try clear hlen); (try clear hqn); (try clear hqs); (try clear hs); (try clear B); (try clear B1); (try clear B2); (try clear hl); subst_vars; rw [goIn]; first | done | (cases h1 : vIn x 1 65535 <;> cases h2 : decide ((pre.length : Int) > 0) <;> cases h3 : decide ((pre.getLastD 0) ≥ x) <;> simp [h1, h2, h3] at * <;> first | omega | (simp_all; done) | (simp_all; omega)))
 | x :: r, pre, m + 1, H, hl, hm => by
  have hpl : pre.length < l.length := by rw [hl]; simp
  have hlt : decide ((pre.length : Int) < (l.length : Int)) = true := by simpa using hpl
  have hmem : x ∈ l := by rw [hl]; simp
  have hix : IntKind.i64.wrap ((pre.length : Int) + 1) = (((pre ++ [x]).length : Nat) : Int) := by
   rw [wrap64 _ (by omega) (by omega), List.length_append, List.length_singleton]
   rfl
  show (PR (n + 3) AV).bin _ _ _ _ = _
  simp only [PR_box, PR_new, PR_fadr, PR_load, PR_store, PR_bin, PR_binB, PR_binA, PR_un, PR_cond, PR_guard, PR_pick, PR_len, PR_lenS, PR_iadr, PR_idx, PR_slice, PR_sliceS, PR_newSl, PR_fill, PR_make, PR_app, PR_cvI, PR_cvBS]
  refine w_bin (v := .sc (.bool (decide ((pre.length : Int) < (l.length : Int))))) (fun k => rfl) ?_
  refine w_cT hlt ?_
  refine w_iadrE lenI (by decide) hl ?_
  refine w_ld_rp (c := .sc (.int .i64 x)) rfl ?_
  refine lw_sc rfl (vcons (Vw_sc _ _) vnil) (isIdF (n + 1) _ x) ?_
  refine w_not ?_
  apply w_merge ((!(vIn x 1 65535)) || ((decide ((pre.length : Int) > 0)) && (decide ((pre.getLastD 0) ≥ x))))
  ·intro b1 q1
   refine w_split ((vIn x 1 65535)) (fun h1 => ?_) (fun h1 => ?_)
   ·refine w_hT (nF h1) ?_
    refine w_hT (nF h1) ?_
    refine w_bin (v := .sc (.bool (decide ((pre.length : Int) > 0)))) (fun k => rfl) ?_
    refine w_hT (nF h1) ?_
    apply w_merge ((decide ((pre.length : Int) > 0)) && (decide ((pre.getLastD 0) ≥ x)))
    ·intro b2 q2
     refine w_split ((decide ((pre.length : Int) > 0))) (fun h2 => ?_) (fun h2 => ?_)
     ·refine w_gT h2 ?_
      refine w_gT h2 ?_
      refine w_gT h2 ?_
      refine w_bin (v := .sc (.int .i64 (IntKind.i64.wrap ((pre.length : Int) - 1)))) (fun k => rfl) ?_
      refine w_gT h2 ?_
      refine w_iadrL (d := 0) lenI (by decide) h2 hl hlen ?_
      refine w_gT h2 ?_
      refine w_ld_rp (c := .sc (.int .i64 (pre.getLastD 0))) rfl ?_
      refine w_gT h2 ?_
      refine w_gT h2 ?_
      refine w_bin (v := .sc (.bool (decide ((pre.getLastD 0) ≥ x)))) (fun k => rfl) ?_
      refine w_hT (nF h1) ?_
      refine w_pTb h2 (mAT q2 h2) ?_
      exact rfl
     ·refine w_gF h2 ?_
      refine w_gF h2 ?_
      refine w_gF h2 ?_
      refine w_gF h2 ?_
      refine w_gF h2 ?_
      refine w_gF h2 ?_
      refine w_gF h2 ?_
      refine w_hT (nF h1) ?_
      refine w_pFb h2 (mAF q2 h2) ?_
      exact rfl
    intro b2 q2
    refine w_pFb (nF h1) (by subst q2; exact mOF q1 (nF h1)) ?_
    exact rfl
   ·refine w_hF (nT h1) ?_
    refine w_hF (nT h1) ?_
    refine w_hF (nT h1) ?_
    refine w_u ?_
    refine w_u ?_
    refine w_u ?_
    refine w_u ?_
    refine w_u ?_
    refine w_u ?_
    refine w_u ?_
    refine w_hF (nT h1) ?_
    refine w_pTb (nT h1) (mOT q1 (nT h1)) ?_
    exact rfl
  intro b1 q1
  refine w_split (b1) (fun h3 => ?_) (fun h3 => ?_)
  ·refine w_cT h3 ?_
   exact w_endB (by (try clear ih); (try clear hlt); (try clear hix); (try clear hm); (try clear hmem); (try clear hpl); (try clear hsl); (try clear hlen); (try clear hqn); (try clear hqs); (try clear hs); (try clear B); (try clear B1); (try clear B2); (try clear hl); subst_vars; rw [goIn]; first | done | (cases h1 : vIn x 1 65535 <;> cases h2 : decide ((pre.length : Int) > 0) <;> cases h3 : decide ((pre.getLastD 0) ≥ x) <;> simp [h1, h2, h3] at * <;> first | omega | (simp_all; done) | (simp_all; omega)))
  ·refine w_cF h3 ?_
   refine w_bin (v := .sc (.int .i64 (IntKind.i64.wrap ((pre.length : Int) + 1)))) (fun k => rfl) ?_
   rw [hix]
   refine (implIn_loop n hn ty l hlen r (pre ++ [x]) m _  (by rw [hl]; simp) (by simpa using hm)).trans (congrArg (fun b => some (AV.sc (Value.bool b))) ?_)
   (try clear ih); (try clear hlt); (try clear hix); (try clear hm); (try clear hmem); (try clear hpl); (try clear hsl); (try clear hlen); (try clear hqn); (try clear hqs); (try clear hs); (try clear B); (try clear B1); (try clear B2); (try clear hl); subst_vars; rw [goIn]; first | done | (cases h1 : vIn x 1 65535 <;> cases h2 : decide ((pre.length : Int) > 0) <;> cases h3 : decide ((pre.getLastD 0) ≥ x) <;> simp [h1, h2, h3] at * <;> first | omega | (simp_all; done) | (simp_all; omega))
def vInOk (l : List Int) : Bool := goIn l [] l
theorem specInF (n : Nat) (hn : 1048576 < n) (ty : Nat) (l : List Int) (hlen : l.length ≤ 1048576) : tree E0 (n + 4) ty 26 [intsC l] = some (.sc (.bool (vInOk l))) := by
 rw [tree_def, f26_eq, f26, ints_rows]
 exact specIn_loop n hn ty l hlen l [] (n + 3) [] rfl (by omega)
theorem implInF (n : Nat) (hn : 1048576 < n) (ty : Nat) (l : List Int) (hlen : l.length ≤ 1048576) : tree E0 (n + 4) ty 29 [intsC l] = some (.sc (.bool (vInOk l))) := by
 rw [tree_def, f29_eq, f29, ints_rows]
 simp only [PR_len]
 refine w_len ?_
 exact implIn_loop n hn ty l hlen l [] (n + 3) [] rfl (by omega)
end Go.Proofs.YtejjggnchdldoaaDoor.Abs
set_option linter.unusedVariables false
set_option linter.unusedSimpArgs false
namespace Go.Proofs.YtejjggnchdldoaaDoor.Abs
open Go
section
variable {β : Type} {n : Nat} {H : Heap} {L L' L1 L2 : List Ck} {G : Option β → Prop} {K : AV → Option β} {KH : AV → Heap → Option β}
theorem ownL_plain {d : Nat} : ∀ {ts : List Nat} {xs cells : List AV} {I : List Nat}, ownL (ownT ti0 E0.tp H d) ts xs = some (cells, I) → cells.all isSc = true → xs = cells ∧ I = []
 | ts, [], cells, I, h, _ => by
  obtain ⟨_, e⟩ := ownL_nil h
  cases e
  exact ⟨rfl, rfl⟩
 | [], _ :: _, _, _, h, _ => by simp [ownL] at h
 | t :: ts, x :: xs, cells, I, h, hs => by
  obtain ⟨a, b, h1, h2, e⟩ := ownL_cons h
  cases e
  rw [List.all_cons, Bool.and_eq_true] at hs
  obtain ⟨rfl, e2⟩ := ownL_plain h2 hs.2
  have hx : x = a.1 ∧ a.2 = [] := by
   obtain ⟨a1, a2⟩ := a
   cases a1 with
   | sc v =>
    have := own_sc h1
    subst this
    cases d with
    | zero => simp [ownT] at h1
    | succ d =>
     have : (AV.sc v, ([] : List Nat)) = (.sc v, a2) := Option.some.inj h1
     cases this
     exact ⟨rfl, rfl⟩
   | _ => simp [isSc] at hs
  refine ⟨by rw [hx.1], by rw [hx.2, e2]; rfl⟩
theorem ownL_plain2 {d : Nat} : ∀ {ts : List Nat} {l : List AV}, ts.length = l.length → l.all isSc = true → ownL (ownT ti0 E0.tp H (d + 1)) ts l = some (l, [])
 | [], [], _, _ => rfl
 | t :: ts, x :: l, h, hl => by
  rw [List.all_cons, Bool.and_eq_true] at hl
  cases x with
  | sc v =>
   rw [ownL, ownT_sc, Option.bind_some, ownL_plain2 (by simpa using h) hl.2]
   rfl
  | _ => simp [isSc] at hl
 | [], _ :: _, h, _ => by simp at h
 | _ :: _, [], h, _ => by simp at h
theorem Sep.openR {sz m ty : Nat} {x : AV} {cells : List AV} (hs : Sep H L) (hty : ∃ i j, ti0 ty = some i ∧ ti0 i.elem = some j ∧ j.size = sz) (hp : Pk L (.own x ty (.ro m cells)) L1) (hf : cells.all isSc = true) :
  (x = .nl ∧ m = 0 ∧ cells = []) ∨ ∃ id pre post, x = .sl id pre.length m sz ∧ cells.length = m * sz ∧ Sep H (.blk id (pre ++ (cells ++ post)) true :: L1) := by
 obtain ⟨i, j, e1, e2, rfl⟩ := hty
 obtain ⟨I, ⟨J, R, rfl, ⟨_, _, h1⟩, h2⟩, h3⟩ := hs.pick hp
 rcases own_raw e1 e2 h1 with ⟨rfl, rfl, rfl, rfl⟩ | ⟨id, off, raw, J', b, rfl, rfl, hb, hlv, ha, h4, h5⟩
 ·exact .inl ⟨rfl, rfl, rfl⟩
 ·obtain ⟨rfl, rfl⟩ := ownL_plain h5 hf
  obtain ⟨hl, b', hb', _, hle, hc⟩ := rd_live h4
  rw [hb] at hb'
  cases hb'
  have e : b.cells = b.cells.take off ++ (raw ++ b.cells.drop (off + m * j.size)) := by
   rw [hc, ← List.drop_drop, List.take_append_drop, List.take_append_drop]
  have ho : (b.cells.take off).length = off := by rw [List.length_take]; omega
  refine .inr ⟨id, b.cells.take off, b.cells.drop (off + m * j.size), by rw [ho], hl, ?_⟩
  refine ⟨[id] ++ R, ⟨[id], R, rfl, ⟨rfl, ?_⟩, h2⟩, h3⟩
  rw [hb, ← e]
  obtain ⟨c, l, a⟩ := b
  cases hlv
  cases ha
  rfl
theorem Sep.closeR {sz m ty id : Nat} {pre cells post : List AV} (hty : ∃ i j, ti0 ty = some i ∧ ti0 i.elem = some j ∧ j.size = sz ∧ j.cty.length = sz) (hs : Sep H (.blk id (pre ++ (cells ++ post)) true :: L)) (hf : cells.all isSc = true) (hl : cells.length = m * sz) : Sep H (.own (.sl id pre.length m sz) ty (.ro m cells) :: L) := by
 obtain ⟨i, j, e1, e2, rfl, e4⟩ := hty
 obtain ⟨I, ⟨J, R, rfl, ⟨rfl, h1⟩, h2⟩, h3⟩ := hs
 have hlen : ((List.replicate m j.cty).flatten).length = cells.length := by simp [e4, hl]
 refine ⟨[id] ++ R, ⟨[id], R, rfl, ⟨rfl, ⟨i, j, e1, e2, hl, okLW_scs hlen hf⟩, ?_⟩, h2⟩, h3⟩
 rw [ownT_sl]
 have ha : isApp H id = true := by simp only [isApp, h1]
 have hrd : rdCells H id pre.length (m * j.size) = some cells := by
  simp only [rdCells, h1, if_true]
  rw [if_pos (by simp only [List.length_append]; omega), List.drop_left', ← hl, List.take_left']
  ·rfl
  ·rfl
 simp only [e1, e2, Option.bind_some, if_true, ha, hrd, ownL_plain2 (d := 4) hlen hf]
theorem g_iadrS {w m o d : Nat} {z : Int} {K : AV → Option β} (h0 : 0 ≤ z) (h1 : z < m) (hk : Gd G (K (.ptr d (o + z.toNat * w)))) : Gd G (pIadr w (.sl d o m w) (.sc (.int .i64 z)) fun t => K t) := by
 have e := iadr_sl w m d o z.toNat (fun t => K t) (by omega)
 rw [show ((z.toNat : Nat) : Int) = z by omega] at e
 exact g_congr e hk
end
end Go.Proofs.YtejjggnchdldoaaDoor.Abs
set_option linter.unusedVariables false
set_option linter.unusedSimpArgs false
namespace Go.Proofs.YtejjggnchdldoaaDoor.Abs
open Go
section
variable {β : Type} {n : Nat} {H : Heap} {L L' L1 L2 : List Ck} {G : Option β → Prop} {K : AV → Option β} {KH : AV → Heap → Option β}
theorem ownL_len2 {f : Nat → AV → Option (AV × List Nat)} : ∀ {ts : List Nat} {xs cells : List AV} {I : List Nat}, ownL f ts xs = some (cells, I) → xs.length = cells.length
 | ts, [], cells, I, h => by
  obtain ⟨_, e⟩ := ownL_nil h
  cases e
  rfl
 | [], _ :: _, _, _, h => by simp [ownL] at h
 | t :: ts, x :: xs, cells, I, h => by
  obtain ⟨a, b, h1, h2, e⟩ := ownL_cons h
  cases e
  rw [List.length_cons, List.length_cons, ownL_len2 h2]
theorem ownL_scAt {d : Nat} : ∀ {ts : List Nat} {xs cells : List AV} {I : List Nat} {k : Nat} {v : Value}, ownL (ownT ti0 E0.tp H d) ts xs = some (cells, I) → cells[k]? = some (.sc v) → xs[k]? = some (.sc v)
 | ts, [], cells, I, k, v, h, hk => by
  obtain ⟨_, e⟩ := ownL_nil h
  cases e
  simp at hk
 | [], _ :: _, _, _, _, _, h, _ => by simp [ownL] at h
 | t :: ts, x :: xs, cells, I, k, v, h, hk => by
  obtain ⟨a, b, h1, h2, e⟩ := ownL_cons h
  cases e
  cases k with
  | zero =>
   obtain ⟨a1, a2⟩ := a
   have : a1 = .sc v := by simpa using hk
   subst this
   rw [own_sc h1]
   rfl
  | succ k => simpa using ownL_scAt h2 (by simpa using hk)
theorem g_iadrO {sz m ty : Nat} {x : AV} {cells : List AV} {i : Int} (hs : Sep H L) (hty : ∃ i j, ti0 ty = some i ∧ ti0 i.elem = some j ∧ j.size = sz) (hp : Pk L (.own x ty (.ro m cells)) L1) (h0 : 0 ≤ i) (h1 : i < (m : Nat))
  (h : ∀ id off, (∀ k v, k < sz → cells[i.toNat * sz + k]? = some (.sc v) → rdCells H id (off + k) 1 = some [.sc v]) → Gd G (K (.ptr id off))) : Gd G (pIadr sz x (.sc (.int .i64 i)) fun t => K t) := by
 obtain ⟨ti, tj, e1, e2, rfl⟩ := hty
 obtain ⟨_, _, I, e, _⟩ := hs.own hp
 rcases own_raw e1 e2 e with ⟨rfl, rfl, rfl, rfl⟩ | ⟨id, off, raw, J', b, rfl, rfl, hb, hlv, ha, h4, h5⟩
 ·exact absurd h1 (by simp; omega)
 ·refine g_iadrS h0 h1 ?_
  refine h _ _ fun k v hk hc => ?_
  obtain ⟨hl, b', hb', _, hle, hcs⟩ := rd_live h4
  rw [hb] at hb'
  cases hb'
  have hr := ownL_scAt h5 hc
  have hlt := (List.getElem?_eq_some_iff.1 hr).1
  rw [hl] at hlt
  have hg : b.cells[off + i.toNat * tj.size + k]? = some (.sc v) := by
   rw [hcs, List.getElem?_take_of_lt hlt, List.getElem?_drop] at hr
   rw [← hr]
   congr 1
   omega
  obtain ⟨hlt2, he⟩ := List.getElem?_eq_some_iff.1 hg
  simp only [rdCells, hb, hlv, if_true]
  rw [if_pos (by omega), List.drop_eq_getElem_cons hlt2, he]
  rfl
theorem g_ldH {id o : Nat} {c : AV} (e : rdCells H id o 1 = some [c]) (h : Gd G (K c)) : Gd G (pLoad false 1 (.ptr id o) H fun x => K x) := g_congr (ldF e _) h
end
end Go.Proofs.YtejjggnchdldoaaDoor.Abs
set_option linter.unusedVariables false
set_option linter.unusedSimpArgs false
namespace Go.Proofs.YtejjggnchdldoaaDoor.Abs
open Go
section
variable {β : Type} {n : Nat} {H : Heap} {L L' L1 L2 : List Ck} {G : Option β → Prop} {K : AV → Option β} {KH : AV → Heap → Option β}
def zip3 : List AV → List Nat → List AV → List (AV × Nat × AV)
 | x :: xs, t :: ts, c :: cs => (x, t, c) :: zip3 xs ts cs
 | _, _, _ => []
theorem ownL_split {f : Nat → AV → Option (AV × List Nat)} : ∀ {ts1 ts2 : List Nat} {xs cells : List AV} {I : List Nat}, ownL f (ts1 ++ ts2) xs = some (cells, I) → ts1.length ≤ xs.length → ∃ I1 I2, ownL f ts1 (xs.take ts1.length) = some (cells.take ts1.length, I1) ∧ ownL f ts2 (xs.drop ts1.length) = some (cells.drop ts1.length, I2) ∧ (∀ i ∈ I1, i ∈ I) ∧ ∀ i ∈ I2, i ∈ I
 | [], ts2, xs, cells, I, h, _ => ⟨[], I, by simp [ownL], by simpa using h, by simp, fun i hi => hi⟩
 | t :: ts1, ts2, [], cells, I, h, hl => by simp at hl
 | t :: ts1, ts2, x :: xs, cells, I, h, hl => by
  obtain ⟨a, b, h1, h2, e⟩ := ownL_cons h
  cases e
  obtain ⟨I1, I2, g1, g2, g3, g4⟩ := ownL_split (ts1 := ts1) (ts2 := ts2) h2 (by simpa using hl)
  refine ⟨a.2 ++ I1, I2, ?_, ?_, ?_, ?_⟩
  ·show ownL f (t :: ts1) (x :: xs.take ts1.length) = some (a.1 :: b.1.take ts1.length, a.2 ++ I1)
   rw [ownL, h1, Option.bind_some, g1]
   rfl
  ·simpa using g2
  ·intro i hi
   rcases List.mem_append.1 hi with hi | hi
   ·exact List.mem_append_left _ hi
   ·exact List.mem_append_right _ (g3 i hi)
  ·intro i hi
   exact List.mem_append_right _ (g4 i hi)
theorem ownL_zip3 {d : Nat} {I0 : List Nat} : ∀ {ts : List Nat} {xs cells : List AV} {I : List Nat}, ownL (ownT ti0 E0.tp H d) ts xs = some (cells, I) → okLW (okW ti0 E0.tp 6) ts cells → (∀ i ∈ I, i ∈ I0) → ∀ q ∈ zip3 xs ts cells, okW ti0 E0.tp 6 q.2.1 q.2.2 ∧ ∃ J, ownT ti0 E0.tp H 6 q.2.1 q.1 = some (q.2.2, J) ∧ ∀ i ∈ J, i ∈ I0
 | ts, [], cells, I, h, _, _ => by intro q hq; cases ts <;> cases hq
 | [], _ :: _, _, _, h, _, _ => by simp [ownL] at h
 | t :: ts, x :: xs, cells, I, h, ho, hI => by
  obtain ⟨a, b, h1, h2, e⟩ := ownL_cons h
  cases e
  intro q hq
  rcases List.mem_cons.1 hq with rfl | hq
  ·exact ⟨ho.1, a.2, own_dep d 6 t x a.1 a.2 h1 ho.1, fun i hi => hI i (List.mem_append_left _ hi)⟩
  ·exact ownL_zip3 h2 ho.2 (fun i hi => hI i (List.mem_append_right _ hi)) q hq
theorem okLW_split {f : Nat → AV → Prop} : ∀ {ts1 ts2 : List Nat} {cs : List AV}, okLW f (ts1 ++ ts2) cs → okLW f ts1 (cs.take ts1.length) ∧ okLW f ts2 (cs.drop ts1.length)
 | [], ts2, cs, h => ⟨by simp [okLW], by simpa using h⟩
 | t :: ts1, ts2, [], h => by cases h
 | t :: ts1, ts2, c :: cs, h => by
  obtain ⟨g1, g2⟩ := okLW_split (ts1 := ts1) h.2
  exact ⟨⟨h.1, g1⟩, by simpa using g2⟩
theorem g_elt {α : Type} {enc : α → List AV} {w ty : Nat} {cty : List Nat} {x : AV} {l : List α} {y : α} {i : Int} {ys : List (AV × Nat × AV)} (hs : Sep H L) (hty : ∃ i j, ti0 ty = some i ∧ ti0 i.elem = some j ∧ j.size = w ∧ j.cty = cty) (hp : Pk L (.shs x ty (rowsC enc l) ys) L1)
  (hi : 0 ≤ i) (hy : l[i.toNat]? = some y) (hw : ∀ x, (enc x).length = w) (hf : ∀ x, (enc x).all isFl = true) (hc : cty.length = w)
  (h : ∀ id off raw, raw.length = w → raw.all isLeaf = true → rdCells H id off w = some raw → (∀ (k : Nat) (v : Value), (enc y)[k]? = some (AV.sc v) → raw[k]? = some (AV.sc v)) → Sep H (.shs x ty (rowsC enc l) (zip3 raw cty (enc y) ++ ys) :: L1) → Gd G (K (.ptr id off))) : Gd G (pIadr w x (.sc (.int .i64 i)) fun t => K t) := by
 obtain ⟨ti, tj, e1, e2, rfl, rfl⟩ := hty
 obtain ⟨I, ⟨J, R, rfl, ⟨⟨hlf, hok, e⟩, hys⟩, h2⟩, h3⟩ := hs.pick hp
 have hlt : i.toNat < l.length := (List.getElem?_eq_some_iff.1 hy).1
 rcases own_raw e1 e2 e with ⟨rfl, h0, _, _⟩ | ⟨id, off, raw, J', b, rfl, rfl, hb, hlv, ha, h4, h5⟩
 ·omega
 ·obtain ⟨hl, b', hb', _, hle, hcs⟩ := rd_live h4
  rw [hb] at hb'
  cases hb'
  have hm : (i.toNat + 1) * tj.size ≤ l.length * tj.size := Nat.mul_le_mul_right _ hlt
  have hrep : (List.replicate l.length tj.cty).flatten = (List.replicate i.toNat tj.cty).flatten ++ (tj.cty ++ (List.replicate (l.length - i.toNat - 1) tj.cty).flatten) := by
   rw [show l.length = i.toNat + (1 + (l.length - i.toNat - 1)) by omega, ← List.replicate_append_replicate, ← List.replicate_append_replicate, List.flatten_append, List.flatten_append]
   simp
  have hl1 : ((List.replicate i.toNat tj.cty).flatten).length = i.toNat * tj.size := by simp [hc]
  rw [hrep] at h5
  obtain ⟨I1, I2, g1, g2, g3, g4⟩ := ownL_split h5 (by rw [hl1, hl, Nat.add_mul] at *; omega)
  obtain ⟨I3, I4, k1, k2, k3, k4⟩ := ownL_split g2 (by rw [List.length_drop, hl1, hl, hc]; rw [Nat.add_mul] at hm; omega)
  rw [hl1, hc] at k1
  have hcell : (((l.map enc).flatten).drop (i.toNat * tj.size)).take tj.size = enc y := by
   obtain ⟨_, hey⟩ := List.getElem?_eq_some_iff.1 hy
   have hsplit : l = l.take i.toNat ++ y :: l.drop (i.toNat + 1) := by
    rw [← hey, ← List.drop_eq_getElem_cons hlt, List.take_append_drop]
   have hpre : ((l.take i.toNat).map enc).flatten.length = i.toNat * tj.size := by
    rw [rows_len hw, List.length_take, Nat.min_eq_left (Nat.le_of_lt hlt)]
   rw [hsplit, List.map_append, List.flatten_append, List.map_cons, List.flatten_cons]
   have e0 : (l.take i.toNat ++ y :: l.drop (i.toNat + 1)).take i.toNat = l.take i.toNat := by rw [← hsplit]
   rw [List.drop_append_of_le_length (by omega), ← hpre, List.drop_length, List.nil_append, List.take_append_of_le_length (by rw [hw]; exact Nat.le_refl _), ← hw y, List.take_length]
  rw [hcell] at k1
  have hokE : okLW (okW ti0 E0.tp 6) tj.cty (enc y) := by
   obtain ⟨i', j', q1, q2, q3, q4⟩ := hok
   rw [e1] at q1
   cases q1
   rw [e2] at q2
   cases q2
   rw [hrep] at q4
   have q5 := (okLW_split (okLW_split q4).2).1
   rw [hl1, hc] at q5
   show okLW (okW ti0 E0.tp 6) tj.cty (enc y)
   have hcell' : (((rowsC enc l |> fun _ => (l.map enc).flatten)).drop (i.toNat * tj.size)).take tj.size = enc y := hcell
   rw [← hcell]
   exact okLW_le q5 (by decide)
  have hrd : rdCells H id (off + i.toNat * tj.size) tj.size = some ((raw.drop (i.toNat * tj.size)).take tj.size) := by
   simp only [rdCells, hb, hlv, if_true]
   rw [Nat.add_mul] at hm
   rw [if_pos (by omega), hcs, List.drop_take, List.take_take, List.drop_drop, Nat.min_eq_left (by omega)]
  have hrl : ((raw.drop (i.toNat * tj.size)).take tj.size).length = tj.size := by
   rw [List.length_take, List.length_drop, hl]
   rw [Nat.add_mul] at hm
   omega
  refine g_iadrS hi (by omega) ?_
  refine h id _ _ hrl (ownL_leaf (fun t x a I h hl => own_leaf h hl) k1 (hf y)) hrd (fun k v hk => ownL_scAt k1 hk) ⟨(id :: J') ++ R, ⟨id :: J', R, rfl, ⟨⟨hlf, hok, e⟩, fun q hq => ?_⟩, h2⟩, h3⟩
  rcases List.mem_append.1 hq with hq | hq
  ·exact ownL_zip3 k1 hokE (fun i hi => List.mem_cons_of_mem _ (g4 i (k3 i hi))) q hq
  ·exact hys q hq
theorem g_ldE2 {id o w : Nat} {cs : List AV} (e : rdCells H id o w = some cs) (h : Gd G (K (.agg cs))) : Gd G (pLoad true w (.ptr id o) H fun x => K x) := g_congr (ldT e _) h
theorem rd_part {id o w k v : Nat} {cs : List AV} (e : rdCells H id o w = some cs) (hk : k + v ≤ w) : rdCells H id (o + k) v = some ((cs.drop k).take v) := by
 obtain ⟨hl, b, hb, hlv, hle, hcs⟩ := rd_live e
 simp only [rdCells, hb, hlv, if_true]
 rw [if_pos (by omega), hcs, List.drop_take, List.take_take, List.drop_drop, Nat.min_eq_left (by omega)]
theorem g_ldF2 {id o k : Nat} {c : AV} {w : Nat} {cs : List AV} (e : rdCells H id o w = some cs) (hk : k < w) (hc : cs[k]? = some c) (h : Gd G (K c)) : Gd G (pLoad false 1 (.ptr id (o + k)) H fun x => K x) := by
 have e2 := rd_part (k := k) (v := 1) e (by omega)
 obtain ⟨hlt, he⟩ := List.getElem?_eq_some_iff.1 hc
 rw [List.drop_eq_getElem_cons hlt, he] at e2
 exact g_ldH e2 h
theorem g_lenP {x t y : AV} {ty ty' k m : Nat} {cells : List AV} {ys : List (AV × Nat × AV)} (hs : Sep H L) (hp : Pk L (.shs x ty t ys) L1) (hk : ys[k]? = some (y, ty', .ro m cells)) (h : Gd G (K (.sc (.int .i64 m)))) : Gd G (pLen y fun x => K x) := by
 obtain ⟨_, I, e⟩ := hs.seenS hp hk
 have hl := len_own e
 refine g_congr ?_ h
 have key : ∀ (x : AV), (∀ v, x ≠ .sc v) → lenA x = some m → pLen x K = K (.sc (.int .i64 m)) := by
  intro x hx hl
  cases x with
  | sc v => exact absurd rfl (hx v)
  | nl => cases hl; rfl
  | ro n cs => cases hl; rfl
  | sl a b c d => cases hl; rfl
  | _ => cases hl
 refine key y (fun v hv => ?_) hl
 subst hv
 simp [ownT] at e
theorem g_iadrI {ty : Nat} {x : AV} {l : List Int} {y i : Int} (hs : Sep H L) (hp : Pk L (.own x ty (intsC l)) L1) (hty : ∃ i j, ti0 ty = some i ∧ ti0 i.elem = some j ∧ j.size = 1) (h0 : 0 ≤ i) (hy : l[i.toNat]? = some y)
  (h : ∀ id off, rdCells H id off 1 = some [.sc (.int .i64 y)] → Gd G (K (.ptr id off))) : Gd G (pIadr 1 x (.sc (.int .i64 i)) fun t => K t) := by
 have hlt := (List.getElem?_eq_some_iff.1 hy).1
 refine g_iadrO (m := l.length) (cells := l.map fun z => .sc (.int .i64 z)) hs hty hp h0 (by omega) fun id off hc => h id off ?_
 exact hc 0 _ (by omega) (by simp [hy])
def pushB (s : ByteArray) (b : Int) : ByteArray := s.push (UInt8.ofNat b.toNat)
theorem pushB_size (s : ByteArray) (b : Int) : (pushB s b).size = s.size + 1 := by
 unfold pushB
 exact ByteArray.size_push
theorem bytes_push (s : ByteArray) (b : Int) (h0 : 0 ≤ b) (h1 : b < 256) : bytesC (pushB s b) = .ro (s.size + 1) (bytesAV s ++ [.sc (.int .u8 b)]) := by
 show AV.ro (pushB s b).size (bytesAV (pushB s b)) = _
 rw [pushB_size]
 congr 1
 have e : ((UInt8.ofNat b.toNat).toNat : Int) = b := by
  rw [UInt8.toNat_ofNat']
  omega
 unfold bytesAV pushB
 rw [ByteArray.data_push, Array.toList_push, List.map_append, List.map_cons, List.map_nil, e]
theorem g_appB1 {ty : Nat} {cty : List Nat} {x : AV} {s : ByteArray} {i : Nat} {z : Int} {a : Bool} (hs : Sep H L) (hx : Pk L (.own x ty (bytesC s)) L1) (hp : Pk L1 (.blk i [.sc (.int .u8 z)] a) L2) (hty : ∃ i j, ti0 ty = some i ∧ ti0 i.elem = some j ∧ j.size = 1 ∧ j.cty = cty) (hc : cty.length = 1) (hb : 0 ≤ z ∧ z < 256 ∧ s.size + 1 ≤ 140737488355328)
  (h : ∀ x' H', isLeaf x' = true → Sep H' (.own x' ty (bytesC (pushB s z)) :: L2) → Gd G (KH x' H')) : Gd G (pApp 1 1 x (.sl i 0 1 1) H fun x H => KH x H) := by
 obtain ⟨c, rfl⟩ := List.length_eq_one_iff.1 hc
 have e1 : (List.replicate 1 [c]).flatten = [c] := by simp
 rw [bytes_push s z hb.1 hb.2.1] at h
 exact g_app (m := 1) (cb := [.sc (.int .u8 z)]) hs hty hx (src_blk hp rfl rfl (by rw [e1]; exact .sc .nil) (by rw [e1]; exact ⟨trivial, trivial⟩)) (by rw [e1]; exact ⟨trivial, trivial⟩) (by omega) fun x' H' lx hs' => h x' H' lx hs'
theorem g_cvI {k k' : IntKind} {a z : Int} {K : AV → Option β} (hz : k.wrap a = z) (h : Gd G (K (.sc (.int k z)))) : Gd G (pCvI k (.sc (.int k' a)) fun t => K t) := by
 subst hz
 exact h
theorem u8_small {a : Int} (h0 : 0 ≤ a) (h1 : a < 256) : IntKind.u8.wrap a = a := by
 simp only [IntKind.wrap, IntKind.bits, IntKind.signed]
 simp
 omega
end
end Go.Proofs.YtejjggnchdldoaaDoor.Abs
set_option linter.unusedVariables false
set_option linter.unusedSimpArgs false
namespace Go.Proofs.YtejjggnchdldoaaDoor.Abs
open Go
section
variable {β : Type} {n : Nat} {H : Heap} {L L' L1 L2 : List Ck} {G : Option β → Prop} {K : AV → Option β} {KH : AV → Heap → Option β}
theorem rep_cut {cty : List Nat} {m a b : Nat} (ha : a ≤ b) (hb : b ≤ m) : (List.replicate m cty).flatten = (List.replicate a cty).flatten ++ ((List.replicate (b - a) cty).flatten ++ (List.replicate (m - b) cty).flatten) := by
 rw [show m = a + ((b - a) + (m - b)) by omega, ← List.replicate_append_replicate, ← List.replicate_append_replicate, List.flatten_append, List.flatten_append]
 congr 4
 omega
def SlOf (w : Nat) (x : AV) (a b : Nat) (y : AV) : Prop := (x = .nl ∧ y = .nl) ∨ ∃ id off m, x = .sl id off m w ∧ y = .sl id (off + a * w) (b - a) w
theorem g_sliceS {sz m ty a b : Nat} {cty : List Nat} {x : AV} {cells : List AV} {ys : List (AV × Nat × AV)} {lo hi : Option AV} (hs : Sep H L) (hty : ∃ i j, ti0 ty = some i ∧ ti0 i.elem = some j ∧ j.size = sz ∧ j.cty = cty) (hp : Pk L (.shs x ty (.ro m cells) ys) L1)
  (hlo : bound lo 0 = some ((a : Nat) : Int)) (hhi : bound hi m = some ((b : Nat) : Int)) (hab : a ≤ b) (hb : b ≤ m) (hc : cty.length = sz)
  (h : ∀ y, isLeaf y = true → SlOf sz x a b y → Sep H (.shs x ty (.ro m cells) ((y, ty, .ro (b - a) ((cells.drop (a * sz)).take ((b - a) * sz))) :: ys) :: L1) → Gd G (K y)) : Gd G (pSlice sz x lo hi fun t => K t) := by
 obtain ⟨ti, tj, e1, e2, rfl, rfl⟩ := hty
 obtain ⟨I, ⟨J, R, rfl, ⟨⟨hlf, hok, e⟩, hys⟩, h2⟩, h3⟩ := hs.pick hp
 have hcl : cells.length = m * tj.size ∧ okLW (okW ti0 E0.tp 5) (List.replicate m tj.cty).flatten cells := by
  obtain ⟨i', j', q1, q2, q3, q4⟩ := hok
  rw [e1] at q1
  cases q1
  rw [e2] at q2
  cases q2
  exact ⟨q3, q4⟩
 have hrl : ∀ k, ((List.replicate k tj.cty).flatten).length = k * tj.size := fun k => by simp [hc]
 have hm1 : a * tj.size ≤ b * tj.size := Nat.mul_le_mul_right _ hab
 have hm2 : b * tj.size ≤ m * tj.size := Nat.mul_le_mul_right _ hb
 have hm3 : (b - a) * tj.size = b * tj.size - a * tj.size := Nat.sub_mul ..
 have hokP : okW ti0 E0.tp 6 ty (.ro (b - a) ((cells.drop (a * tj.size)).take ((b - a) * tj.size))) := by
  refine ⟨ti, tj, e1, e2, ?_, ?_⟩
  ·rw [List.length_take, List.length_drop, hcl.1]
   omega
  ·have q := hcl.2
   rw [rep_cut hab hb] at q
   have q2 := (okLW_split (okLW_split q).2).1
   rw [hrl, hrl] at q2
   exact q2
 have fin : ∀ y JP, isLeaf y = true → SlOf tj.size x a b y → ownT ti0 E0.tp H 6 ty y = some (.ro (b - a) ((cells.drop (a * tj.size)).take ((b - a) * tj.size)), JP) → (∀ i ∈ JP, i ∈ J) → Gd G (K y) := by
  intro y JP hy1 hq hy hJ
  refine h y hy1 hq ⟨J ++ R, ⟨J, R, rfl, ⟨⟨hlf, hok, e⟩, fun q hq => ?_⟩, h2⟩, h3⟩
  rcases List.mem_cons.1 hq with rfl | hq
  ·exact ⟨hokP, JP, hy, hJ⟩
  ·exact hys q hq
 rcases own_raw e1 e2 e with ⟨rfl, rfl, rfl, rfl⟩ | ⟨id, off, raw, J', bb, rfl, rfl, hbb, hlv, ha, h4, h5⟩
 ·have hb0 : b = 0 := by omega
  have ha0 : a = 0 := by omega
  subst hb0
  subst ha0
  refine g_congr (b := K .nl) ?_ (fin .nl [] rfl (.inl ⟨rfl, rfl⟩) (by simp [ownT]) (by simp))
  have hl0 : lenA .nl = some 0 := rfl
  simp only [pSlice, hl0, hlo, hhi, Option.bind_some]
  rfl
 ·obtain ⟨hl, b', hb', _, hle, hcs⟩ := rd_live h4
  rw [hbb] at hb'
  cases hb'
  rw [rep_cut hab hb] at h5
  obtain ⟨I1, I2, g1, g2, g3, g4⟩ := ownL_split h5 (by rw [hrl, hl]; omega)
  obtain ⟨I3, I4, k1, k2, k3, k4⟩ := ownL_split g2 (by rw [hrl, List.length_drop, hrl, hl]; omega)
  rw [hrl, hrl] at k1
  refine g_congr (b := K (.sl id (off + a * tj.size) (b - a) tj.size)) ?_ (fin _ (id :: I3) rfl (.inr ⟨id, off, m, rfl, rfl⟩) ?_ ?_)
  ·have hl0 : lenA (.sl id off m tj.size) = some m := rfl
   simp only [pSlice, hl0, hlo, hhi, Option.bind_some, if_true]
   rw [if_pos (by omega)]
   congr 2
   omega
  ·rw [ownT_sl]
   have hap : isApp H id = true := by simp only [isApp, hbb]; exact ha
   have hrd : rdCells H id (off + a * tj.size) ((b - a) * tj.size) = some ((raw.drop (a * tj.size)).take ((b - a) * tj.size)) := by
    simp only [rdCells, hbb, hlv, if_true]
    rw [if_pos (by omega), hcs, List.drop_take, List.take_take, List.drop_drop, Nat.min_eq_left (by omega)]
   simp only [e1, e2, Option.bind_some, if_true, hap, hrd, k1]
  ·intro i hi
   rcases List.mem_cons.1 hi with rfl | hi
   ·exact List.mem_cons_self
   ·exact List.mem_cons_of_mem _ (g4 i (k3 i hi))
theorem rows_sub {α : Type} {enc : α → List AV} {w : Nat} (hw : ∀ x, (enc x).length = w) (l : List α) (a b : Nat) (hab : a ≤ b) (hb : b ≤ l.length) : (AV.ro (b - a) ((((l.map enc).flatten).drop (a * w)).take ((b - a) * w))) = rowsC enc ((l.drop a).take (b - a)) := by
 have h1 : (((l.map enc).flatten).drop (a * w)) = ((l.drop a).map enc).flatten := by
  have e : l = l.take a ++ l.drop a := (List.take_append_drop a l).symm
  have hp : ((l.take a).map enc).flatten.length = a * w := by rw [rows_len hw, List.length_take, Nat.min_eq_left (by omega)]
  rw [e, List.map_append, List.flatten_append]
  have e0 : (l.take a ++ l.drop a).drop a = l.drop a := by rw [← e]
  rw [e0, List.drop_append_of_le_length (by omega), ← hp, List.drop_length, List.nil_append]
 have h2 : (((l.drop a).map enc).flatten).take ((b - a) * w) = (((l.drop a).take (b - a)).map enc).flatten := by
  have e : l.drop a = (l.drop a).take (b - a) ++ (l.drop a).drop (b - a) := (List.take_append_drop _ _).symm
  have hp : (((l.drop a).take (b - a)).map enc).flatten.length = (b - a) * w := by rw [rows_len hw, List.length_take, List.length_drop, Nat.min_eq_left (by omega)]
  have e0 : ((l.drop a).take (b - a) ++ (l.drop a).drop (b - a)).take (b - a) = (l.drop a).take (b - a) := by rw [← e]
  rw [e, List.map_append, List.flatten_append, e0, List.take_append_of_le_length (by omega), ← hp, List.take_length]
 rw [h1, h2]
 show _ = AV.ro _ _
 rw [List.length_take, List.length_drop, Nat.min_eq_left (by omega)]
theorem g_sliceR {α : Type} {enc : α → List AV} {w ty : Nat} {a b : Int} {cty : List Nat} {x : AV} {l : List α} {ys : List (AV × Nat × AV)} {lo hi : Option AV} (hs : Sep H L) (hty : ∃ i j, ti0 ty = some i ∧ ti0 i.elem = some j ∧ j.size = w ∧ j.cty = cty) (hp : Pk L (.shs x ty (rowsC enc l) ys) L1)
  (hlo : bound lo 0 = some a) (hhi : bound hi l.length = some b) (h0 : 0 ≤ a) (hab : a ≤ b) (hb : b ≤ (l.length : Nat)) (hw : ∀ x, (enc x).length = w) (hc : cty.length = w)
  (h : ∀ y, isLeaf y = true → SlOf w x a.toNat b.toNat y → Sep H (.shs x ty (rowsC enc l) ((y, ty, rowsC enc ((l.drop a.toNat).take (b.toNat - a.toNat))) :: ys) :: L1) → Gd G (K y)) : Gd G (pSlice w x lo hi fun t => K t) := by
 obtain ⟨a', rfl⟩ : ∃ a' : Nat, a = a' := ⟨a.toNat, by omega⟩
 obtain ⟨b', rfl⟩ : ∃ b' : Nat, b = b' := ⟨b.toNat, by omega⟩
 refine g_sliceS (cells := (l.map enc).flatten) hs hty hp hlo hhi (by omega) (by omega) hc fun y hy hq hs' => h y hy (by simpa using hq) ?_
 rw [rows_sub hw l a' b' (by omega) (by omega)] at hs'
 exact hs'
end
end Go.Proofs.YtejjggnchdldoaaDoor.Abs
set_option linter.unusedVariables false
set_option linter.unusedSimpArgs false
namespace Go.Proofs.YtejjggnchdldoaaDoor.Abs
open Go
section
variable {β : Type} {n : Nat} {H : Heap} {L L' L1 L2 : List Ck} {G : Option β → Prop} {K : AV → Option β} {KH : AV → Heap → Option β}
theorem ownL_set {d : Nat} : ∀ {ts : List Nat} {xs cells : List AV} {I : List Nat} {k : Nat} {v v' : Value}, ownL (ownT ti0 E0.tp H (d + 1)) ts xs = some (cells, I) → cells[k]? = some (.sc v) → ownL (ownT ti0 E0.tp H (d + 1)) ts (xs.set k (.sc v')) = some (cells.set k (.sc v'), I)
 | ts, [], cells, I, k, v, v', h, hk => by
  obtain ⟨_, e⟩ := ownL_nil h
  cases e
  simp at hk
 | [], _ :: _, _, _, _, _, _, h, _ => by simp [ownL] at h
 | t :: ts, x :: xs, cells, I, k, v, v', h, hk => by
  obtain ⟨a, b, h1, h2, e⟩ := ownL_cons h
  cases e
  cases k with
  | zero =>
   obtain ⟨a1, a2⟩ := a
   have : a1 = .sc v := by simpa using hk
   subst this
   have hx := own_sc h1
   subst hx
   have e2 : ([] : List Nat) = a2 := by
    have : (AV.sc v, ([] : List Nat)) = (.sc v, a2) := Option.some.inj h1
    cases this
    rfl
   subst e2
   show ownL _ (t :: ts) (.sc v' :: xs) = some (.sc v' :: b.1, [] ++ b.2)
   rw [ownL, ownT_sc, Option.bind_some, h2]
   rfl
  | succ k =>
   have ih := ownL_set (v' := v') h2 (by simpa using hk)
   show ownL _ (t :: ts) (x :: xs.set k (.sc v')) = some (a.1 :: b.1.set k (.sc v'), a.2 ++ b.2)
   rw [ownL, h1, Option.bind_some, ih]
   rfl
theorem okLW_set {d : Nat} : ∀ {ts : List Nat} {cs : List AV} {k : Nat} {v' : Value}, okLW (okW ti0 E0.tp (d + 1)) ts cs → okLW (okW ti0 E0.tp (d + 1)) ts (cs.set k (.sc v'))
 | [], [], _, _, h => h
 | t :: ts, c :: cs, 0, v', h => ⟨trivial, h.2⟩
 | t :: ts, c :: cs, k + 1, v', h => ⟨h.1, okLW_set h.2⟩
 | [], _ :: _, _, _, h => by cases h
 | _ :: _, [], _, _, h => by cases h
theorem set_rows {α : Type} {enc : α → List AV} {w : Nat} (hw : ∀ x, (enc x).length = w) {l : List α} {i k : Nat} {y y' : α} {v : AV} (hy : l[i]? = some y) (hk : k < w) (he : enc y' = (enc y).set k v) : ((l.map enc).flatten).set (i * w + k) v = ((l.set i y').map enc).flatten := by
 induction l generalizing i with
 | nil => simp at hy
 | cons x l ih =>
  cases i with
  | zero =>
   have : x = y := by simpa using hy
   subst this
   rw [List.set_cons_zero, List.map_cons, List.map_cons, List.flatten_cons, List.flatten_cons, he, Nat.zero_mul, Nat.zero_add, List.set_append_left _ _ (by rw [hw]; exact hk)]
  | succ i =>
   have := ih (i := i) (by simpa using hy)
   rw [List.set_cons_succ, List.map_cons, List.map_cons, List.flatten_cons, List.flatten_cons, List.set_append_right _ _ (by rw [hw, Nat.add_mul]; omega), hw, show (i + 1) * w + k - w = i * w + k by rw [Nat.add_mul]; omega, this]
theorem splice_one {cs : List AV} {o : Nat} {v : AV} (h : o < cs.length) : splice cs o [v] = cs.set o v := by
 unfold splice
 rw [List.set_eq_take_append_cons_drop, if_pos h]
 simp
theorem g_setO {α : Type} {enc : α → List AV} {w ty k : Nat} {cty : List Nat} {x : AV} {l : List α} {y y' : α} {i : Int} {v v' : Value} {KS : Heap → Option β} (hs : Sep H L) (hty : ∃ i j, ti0 ty = some i ∧ ti0 i.elem = some j ∧ j.size = w ∧ j.cty = cty) (hp : Pk L (.own x ty (rowsC enc l)) L1)
  (hi : 0 ≤ i) (hy : l[i.toNat]? = some y) (hw : ∀ x, (enc x).length = w) (hk : k < w) (hv : (enc y)[k]? = some (.sc v)) (hl : isLeaf (.sc v') = true) (he : enc y' = (enc y).set k (.sc v'))
  (h : ∀ H', Sep H' (.own x ty (rowsC enc (l.set i.toNat y')) :: L1) → Gd G (KS H')) : Gd G (pIadr w x (.sc (.int .i64 i)) fun t => pFadr k t fun t => pStore 1 t (.sc v') H fun H => KS H) := by
 obtain ⟨ti, tj, e1, e2, rfl, rfl⟩ := hty
 obtain ⟨I, ⟨J, R, rfl, ⟨hlf, hok, e⟩, h2⟩, h3⟩ := hs.pick hp
 have hlt : i.toNat < l.length := (List.getElem?_eq_some_iff.1 hy).1
 rcases own_raw e1 e2 e with ⟨rfl, h0, _, _⟩ | ⟨id, off, raw, J', b, rfl, rfl, hb, hlv, ha, h4, h5⟩
 ·omega
 ·obtain ⟨hl4, b', hb', _, hle, hcs⟩ := rd_live h4
  rw [hb] at hb'
  cases hb'
  have hm : (i.toNat + 1) * tj.size ≤ l.length * tj.size := Nat.mul_le_mul_right _ hlt
  rw [Nat.add_mul, Nat.one_mul] at hm
  have hlc : ((l.map enc).flatten).length = l.length * tj.size := rows_len hw l
  have hcv : ((l.map enc).flatten)[i.toNat * tj.size + k]? = some (.sc v) := by
   have key : ∀ (l : List α) (i : Nat), l[i]? = some y → ((l.map enc).flatten)[i * tj.size + k]? = some (.sc v) := by
    intro l
    induction l with
    | nil => intro i hi; simp at hi
    | cons z l ih =>
     intro i hi
     cases i with
     | zero =>
      have : z = y := by simpa using hi
      subst this
      rw [List.map_cons, List.flatten_cons, List.getElem?_append_left (by rw [hw]; omega), Nat.zero_mul, Nat.zero_add, hv]
     | succ i =>
      rw [List.map_cons, List.flatten_cons, List.getElem?_append_right (by rw [hw, Nat.add_mul]; omega), hw, show (i + 1) * tj.size + k - tj.size = i * tj.size + k by rw [Nat.add_mul]; omega]
      exact ih i (by simpa using hi)
   exact key l i.toNat hy
  have hid : id < H.length := (List.getElem?_eq_some_iff.1 hb).1
  refine g_iadrS hi (by omega) ?_
  refine g_fadr (o' := off + (i.toNat * tj.size + k)) (by omega) ?_
  have hst := st_at 1 id (off + (i.toNat * tj.size + k)) (.sc v') b [.sc v'] H (fun H => KS H) hb (by show (if isLeaf (.sc v') = true then some [AV.sc v'] else none) = _; rw [if_pos hl]) rfl (by omega) hlv
  refine g_congr hst (h _ ?_)
  have hnd := List.nodup_cons.1 (show (id :: (J' ++ R)).Nodup from h3)
  have hfr : ∀ z, z ≠ id → (H.set id { b with cells := splice b.cells (off + (i.toNat * tj.size + k)) [.sc v'] })[z]? = H[z]? := fun z hz => List.getElem?_set_ne (fun e => hz e.symm)
  have hRf : SepI (H.set id { b with cells := splice b.cells (off + (i.toNat * tj.size + k)) [.sc v'] }) L1 R := h2.frame fun z hz => hfr z (fun e => hnd.1 (e ▸ List.mem_append_right _ hz))
  have h6 := ownL_frame (f' := ownT ti0 E0.tp (H.set id { b with cells := splice b.cells (off + (i.toNat * tj.size + k)) [.sc v'] }) 5) (fun t x a h hi => own_frame 5 t x a h fun z hz => hfr z (fun e => hnd.1 (e ▸ List.mem_append_left _ (hi z hz)))) h5
  have h7 := ownL_set (v' := v') h6 hcv
  rw [set_rows hw hy hk he] at h7
  refine ⟨(id :: J') ++ R, ⟨id :: J', R, rfl, ⟨rfl, ?_, ?_⟩, hRf⟩, h3⟩
  ·obtain ⟨i', j', q1, q2, q3, q4⟩ := hok
   rw [e1] at q1
   cases q1
   rw [e2] at q2
   cases q2
   refine ⟨ti, tj, e1, e2, ?_, ?_⟩
   ·show ((l.set i.toNat y').map enc).flatten.length = (l.set i.toNat y').length * tj.size
    rw [rows_len hw]
   ·have q5 := okLW_set (d := 4) (k := i.toNat * tj.size + k) (v' := v') q4
    rw [set_rows hw hy hk he] at q5
    rw [List.length_set]
    exact q5
  ·have hg : (H.set id { b with cells := splice b.cells (off + (i.toNat * tj.size + k)) [.sc v'] })[id]? = some { b with cells := splice b.cells (off + (i.toNat * tj.size + k)) [.sc v'] } := List.getElem?_set_self hid
   rw [show rowsC enc (l.set i.toNat y') = .ro (l.set i.toNat y').length (((l.set i.toNat y').map enc).flatten) from rfl, List.length_set, ownT_sl]
   have hap : isApp (H.set id { b with cells := splice b.cells (off + (i.toNat * tj.size + k)) [.sc v'] }) id = true := by simp only [isApp, hg]; exact ha
   have hrd : rdCells (H.set id { b with cells := splice b.cells (off + (i.toNat * tj.size + k)) [.sc v'] }) id off (l.length * tj.size) = some (raw.set (i.toNat * tj.size + k) (.sc v')) := by
    unfold rdCells
    rw [hg]
    simp only [hlv, if_true]
    rw [splice_one (by omega), if_pos (by rw [List.length_set]; omega), hcs]
    congr 1
    rw [List.drop_set, if_neg (by omega), List.take_set]
    congr 1
    omega
   simp only [e1, e2, Option.bind_some, if_true, hap, hrd, h7]
theorem ownL_splitE {f : Nat → AV → Option (AV × List Nat)} : ∀ {ts1 ts2 : List Nat} {xs cells : List AV} {I : List Nat}, ownL f (ts1 ++ ts2) xs = some (cells, I) → ts1.length ≤ xs.length → ∃ I1 I2, ownL f ts1 (xs.take ts1.length) = some (cells.take ts1.length, I1) ∧ ownL f ts2 (xs.drop ts1.length) = some (cells.drop ts1.length, I2) ∧ I = I1 ++ I2
 | [], ts2, xs, cells, I, h, _ => ⟨[], I, by simp [ownL], by simpa using h, rfl⟩
 | t :: ts1, ts2, [], cells, I, h, hl => by simp at hl
 | t :: ts1, ts2, x :: xs, cells, I, h, hl => by
  obtain ⟨a, b, h1, h2, e⟩ := ownL_cons h
  cases e
  obtain ⟨I1, I2, g1, g2, g3⟩ := ownL_splitE (ts1 := ts1) (ts2 := ts2) h2 (by simpa using hl)
  refine ⟨a.2 ++ I1, I2, ?_, by simpa using g2, by rw [g3, List.append_assoc]⟩
  show ownL f (t :: ts1) (x :: xs.take ts1.length) = some (a.1 :: b.1.take ts1.length, a.2 ++ I1)
  rw [ownL, h1, Option.bind_some, g1]
  rfl
theorem g_appCut {α : Type} {enc : α → List AV} {w bytes ty i : Nat} {cty : List Nat} {x y1 y2 : AV} {l : List α} {ys : List (AV × Nat × AV)} (hs : Sep H L) (hty : ∃ i j, ti0 ty = some i ∧ ti0 i.elem = some j ∧ j.size = w ∧ j.cty = cty) (hp : Pk L (.shs x ty (rowsC enc l) ys) L1)
  (hi : i < l.length) (q1 : SlOf w x 0 i y1) (q2 : SlOf w x (i + 1) l.length y2) (hw : ∀ x, (enc x).length = w) (hf : ∀ x, (enc x).all isFl = true) (hc : cty.length = w) (hb : l.length * bytes ≤ 140737488355328)
  (h : ∀ x' H', isLeaf x' = true → Sep H' (.own x' ty (rowsC enc (l.take i ++ l.drop (i + 1))) :: L1) → Gd G (KH x' H')) : Gd G (pApp w bytes y1 y2 H fun x H => KH x H) := by
 obtain ⟨ti, tj, e1, e2, rfl, rfl⟩ := hty
 obtain ⟨I, ⟨J, R, rfl, ⟨⟨hlf, hok, e⟩, _⟩, h2⟩, h3⟩ := hs.pick hp
 have hokc : okLW (okW ti0 E0.tp 5) (List.replicate l.length tj.cty).flatten (l.map enc).flatten := by
  obtain ⟨i', j', p1, p2, p3, p4⟩ := hok
  rw [e1] at p1
  cases p1
  rw [e2] at p2
  cases p2
  exact p4
 rcases own_raw e1 e2 e with ⟨rfl, h0, _, _⟩ | ⟨id, off, raw, J', b, rfl, rfl, hbb, hlv, ha, h4, h5⟩
 ·omega
 ·obtain ⟨hl4, b', hb', _, hle, hcs⟩ := rd_live h4
  rw [hbb] at hb'
  cases hb'
  have hy1 : y1 = .sl id off i tj.size := by
   rcases q1 with ⟨q, _⟩ | ⟨a1, a2, a3, q, rfl⟩
   ·cases q
   ·cases q
    simp
  have hy2 : y2 = .sl id (off + (i + 1) * tj.size) (l.length - (i + 1)) tj.size := by
   rcases q2 with ⟨q, _⟩ | ⟨a1, a2, a3, q, rfl⟩
   ·cases q
   ·cases q
    rfl
  subst hy1
  subst hy2
  have hrl : ∀ k, ((List.replicate k tj.cty).flatten).length = k * tj.size := fun k => by simp [hc]
  have hm : (i + 1) * tj.size ≤ l.length * tj.size := Nat.mul_le_mul_right _ hi
  have hm1 : (i + 1) * tj.size = i * tj.size + tj.size := by rw [Nat.add_mul, Nat.one_mul]
  have hm2 : (l.length - (i + 1)) * tj.size = l.length * tj.size - (i + 1) * tj.size := Nat.sub_mul ..
  have hrep : (List.replicate l.length tj.cty).flatten = (List.replicate i tj.cty).flatten ++ ((List.replicate 1 tj.cty).flatten ++ (List.replicate (l.length - (i + 1)) tj.cty).flatten) := by
   have := rep_cut (cty := tj.cty) (show i ≤ i + 1 by omega) (show i + 1 ≤ l.length by omega)
   rw [show i + 1 - i = 1 by omega] at this
   exact this
  rw [hrep] at h5 hokc
  obtain ⟨I1, I2, g1, g2, g3⟩ := ownL_splitE h5 (by rw [hrl]; omega)
  obtain ⟨I3, I4, k1, k2, k3⟩ := ownL_splitE g2 (by rw [hrl, List.length_drop, hrl]; omega)
  obtain ⟨o1, o2⟩ := okLW_split hokc
  obtain ⟨o3, o4⟩ := okLW_split o2
  rw [hrl] at g1 o1
  rw [hrl, hrl, List.drop_drop, List.drop_drop] at k2
  rw [hrl, hrl, List.drop_drop] at o4
  rw [Nat.one_mul, ← hm1] at k2 o4
  subst g3
  subst k3
  have hc1 : ((l.map enc).flatten).take (i * tj.size) = ((l.take i).map enc).flatten := by
   have := rows_sub hw l 0 i (Nat.zero_le _) (by omega)
   rw [Nat.zero_mul, List.drop_zero, Nat.sub_zero, List.drop_zero] at this
   exact (AV.ro.inj this).2
  have hc2 : ((l.map enc).flatten).drop ((i + 1) * tj.size) = ((l.drop (i + 1)).map enc).flatten := by
   have := rows_sub hw l (i + 1) l.length (by omega) (Nat.le_refl _)
   have h9 := (AV.ro.inj this).2
   rw [List.take_of_length_le (by rw [List.length_drop, rows_len hw, hm2]; exact Nat.le_refl _), List.take_of_length_le (by rw [List.length_drop]; exact Nat.le_refl _)] at h9
   exact h9
  rw [hc1] at g1 o1
  rw [hc2] at k2 o4
  have hcx : content H tj.size (.sl id off i tj.size) = some (raw.take (i * tj.size)) := by
   show (if tj.size = tj.size then rdCells H id off (i * tj.size) else none) = _
   simp only [rdCells, hbb, hlv, if_true]
   rw [if_pos (by omega), hcs, List.take_take, Nat.min_eq_left (by omega)]
  have hcy : content H tj.size (.sl id (off + (i + 1) * tj.size) (l.length - (i + 1)) tj.size) = some (raw.drop ((i + 1) * tj.size)) := by
   show (if tj.size = tj.size then rdCells H id (off + (i + 1) * tj.size) ((l.length - (i + 1)) * tj.size) else none) = _
   simp only [rdCells, hbb, hlv, if_true]
   rw [if_pos (by omega), hcs, List.drop_take, List.drop_drop, hm2]
  have hk : kill H (.sl id off i tj.size) = some (H.set id { b with live := false }) := by
   show (H[id]?).bind (fun b => if b.app then some (H.set id { b with live := false }) else none) = _
   rw [hbb, Option.bind_some, if_pos ha]
  have hlfy : (raw.drop ((i + 1) * tj.size)).all isLeaf = true := ownL_leaf (fun t x a I h hl => own_leaf h hl) k2 (by
   show (((l.drop (i + 1)).map enc).flatten).all isFl = true
   rw [List.all_flatten, List.all_map, List.all_eq_true]
   intro z _
   exact hf z)
  have hnd := List.nodup_cons.1 (show (id :: ((I1 ++ (I3 ++ I4)) ++ R)).Nodup from h3)
  have hfr : ∀ z, z ≠ id → z < H.length → (H.set id { b with live := false } ++ [⟨raw.take (i * tj.size) ++ raw.drop ((i + 1) * tj.size), true, true⟩])[z]? = H[z]? := fun z hz hl => by
   rw [List.getElem?_append_left (by rw [List.length_set]; exact hl), List.getElem?_set_ne (fun e => hz e.symm)]
  have hJlt : ∀ z ∈ I1 ++ (I3 ++ I4), z < H.length := fun z hz => own_lt 6 ty _ _ e z (List.mem_cons_of_mem _ hz)
  have hmem : ∀ z ∈ I1 ++ (I3 ++ I4), z ≠ id := fun z hz e => hnd.1 (e ▸ List.mem_append_left _ hz)
  refine g_congr (b := KH (.sl (H.set id { b with live := false }).length 0 (i + (l.length - (i + 1))) tj.size) (H.set id { b with live := false } ++ [⟨raw.take (i * tj.size) ++ raw.drop ((i + 1) * tj.size), true, true⟩])) ?_ (h _ _ rfl ?_)
  ·have hl0 : lenA (.sl id off i tj.size) = some i := rfl
   have hl1 : lenA (.sl id (off + (i + 1) * tj.size) (l.length - (i + 1)) tj.size) = some (l.length - (i + 1)) := rfl
   have hbb2 : (i + (l.length - (i + 1))) * bytes ≤ 140737488355328 := Nat.le_trans (Nat.mul_le_mul_right _ (by omega)) hb
   simp only [pApp, hl0, hl1, Option.bind_some, hcx, hcy, hk]
   rw [if_pos hbb2, if_pos hlfy]
   rfl
  ·have a1 := ownL_frame (f' := ownT ti0 E0.tp (H.set id { b with live := false } ++ [⟨raw.take (i * tj.size) ++ raw.drop ((i + 1) * tj.size), true, true⟩]) 5) (fun t x a h hi => own_frame 5 t x a h fun z hz => by
    have := hi z hz
    exact hfr z (hmem z (List.mem_append_left _ this)) (hJlt z (List.mem_append_left _ this))) g1
   have a2 := ownL_frame (f' := ownT ti0 E0.tp (H.set id { b with live := false } ++ [⟨raw.take (i * tj.size) ++ raw.drop ((i + 1) * tj.size), true, true⟩]) 5) (fun t x a h hi => own_frame 5 t x a h fun z hz => by
    have := hi z hz
    exact hfr z (hmem z (List.mem_append_right _ (List.mem_append_right _ this))) (hJlt z (List.mem_append_right _ (List.mem_append_right _ this)))) k2
   have a3 := ownL_append a1 a2
   rw [← List.flatten_append, List.replicate_append_replicate, ← List.flatten_append, ← List.map_append] at a3
   have hlen : (l.take i ++ l.drop (i + 1)).length = i + (l.length - (i + 1)) := by
    rw [List.length_append, List.length_take, List.length_drop, Nat.min_eq_left (by omega)]
   have hR : SepI (H.set id { b with live := false } ++ [⟨raw.take (i * tj.size) ++ raw.drop ((i + 1) * tj.size), true, true⟩]) L1 R := h2.frame fun z hz => hfr z (fun e => hnd.1 (e ▸ List.mem_append_right _ hz)) (h2.lt z hz)
   have hg : (H.set id { b with live := false } ++ [(⟨raw.take (i * tj.size) ++ raw.drop ((i + 1) * tj.size), true, true⟩ : Blk)])[(H.set id { b with live := false }).length]? = some ⟨raw.take (i * tj.size) ++ raw.drop ((i + 1) * tj.size), true, true⟩ := by
    rw [List.getElem?_append_right (Nat.le_refl _), Nat.sub_self]
    rfl
   refine ⟨((H.set id { b with live := false }).length :: (I1 ++ I4)) ++ R, ⟨(H.set id { b with live := false }).length :: (I1 ++ I4), R, rfl, ⟨rfl, ?_, ?_⟩, hR⟩, ?_⟩
   ·refine ⟨ti, tj, e1, e2, rows_len hw _, ?_⟩
    show okLW _ (List.replicate (l.take i ++ l.drop (i + 1)).length tj.cty).flatten ((l.take i ++ l.drop (i + 1)).map enc).flatten
    rw [hlen, ← List.replicate_append_replicate]
    simp only [List.map_append, List.flatten_append]
    exact okLW_append o1 o4
   ·show ownT ti0 E0.tp _ 6 ty _ = some (.ro (l.take i ++ l.drop (i + 1)).length (((l.take i ++ l.drop (i + 1)).map enc).flatten), _)
    rw [hlen, ownT_sl]
    have hap : isApp (H.set id { b with live := false } ++ [⟨raw.take (i * tj.size) ++ raw.drop ((i + 1) * tj.size), true, true⟩]) (H.set id { b with live := false }).length = true := by simp only [isApp, hg]
    have hrd : rdCells (H.set id { b with live := false } ++ [⟨raw.take (i * tj.size) ++ raw.drop ((i + 1) * tj.size), true, true⟩]) (H.set id { b with live := false }).length 0 ((i + (l.length - (i + 1))) * tj.size) = some (raw.take (i * tj.size) ++ raw.drop ((i + 1) * tj.size)) := by
     have hll : (raw.take (i * tj.size) ++ raw.drop ((i + 1) * tj.size)).length = (i + (l.length - (i + 1))) * tj.size := by
      rw [List.length_append, List.length_take, List.length_drop, hl4, Nat.add_mul i (l.length - (i + 1)) tj.size, hm2, Nat.min_eq_left (by omega)]
     simp only [rdCells, hg, if_true, Nat.zero_add, List.drop_zero, ← hll, Nat.le_refl, List.take_length]
    simp only [e1, e2, Option.bind_some, if_true, hap, hrd, a3]
   ·rw [List.cons_append, List.nodup_cons, List.length_set]
    refine ⟨fun hm => ?_, ?_⟩
    ·rcases List.mem_append.1 hm with hm | hm
     ·have : H.length < H.length := hJlt _ (by
       rcases List.mem_append.1 hm with hm | hm
       ·exact List.mem_append_left _ hm
       ·exact List.mem_append_right _ (List.mem_append_right _ hm))
      omega
     ·have := h2.lt _ hm
      omega
    ·have hn := hnd.2
     have hsub : ((I1 ++ I4) ++ R).Sublist ((I1 ++ (I3 ++ I4)) ++ R) := List.Sublist.append (List.Sublist.append (List.Sublist.refl _) (List.sublist_append_right _ _)) (List.Sublist.refl _)
     exact hn.sublist hsub
end
end Go.Proofs.YtejjggnchdldoaaDoor.Abs
set_option linter.unusedVariables false
set_option linter.unusedSimpArgs false
namespace Go.Proofs.YtejjggnchdldoaaDoor.Abs
open Go
inductive MF where
 | str
 | int
 | bool
 | byt
 | skip
 | sub (fs : List MF)
def repF (n : Nat) (fs : List MF) : List MF := (List.replicate n fs).flatten
theorem repF_succ (n : Nat) (fs : List MF) : repF (n + 1) fs = fs ++ repF n fs := by rw [repF, List.replicate_succ, List.flatten_cons, repF]
theorem repF_len (n : Nat) (fs : List MF) : (repF n fs).length = n * fs.length := by simp [repF]
def digs (k : Nat) (out : ByteArray) : ByteArray := if h : k = 0 then out else digs (k / 10) (⟨#[UInt8.ofNat (48 + k % 10)]⟩ ++ out)
termination_by k
decreasing_by omega
def mTxt (k : Int) : ByteArray := ⟨#[109]⟩ ++ (if k ≤ 0 then ⟨#[48]⟩ else digs k.toNat ⟨#[]⟩)
mutual
def mkF (f : MF) (k : Int) : AV → AV × Int
 | .sc v =>
  match f with
  | .str => (.sc (.string (mTxt k)), k + 1)
  | .int => (.sc (.int .i64 k), k + 1)
  | .bool => (.sc (.bool (k.tmod 3 == 0)), k + 1)
  | .byt => (.sc (.int .u8 (IntKind.u8.wrap k)), k + 1)
  | _ => (.sc v, k)
 | .ro n cells =>
  match f with
  | .sub fs => (.ro n (mkL (repF n fs) k cells).1, (mkL (repF n fs) k cells).2)
  | _ => (.ro n cells, k)
 | x => (x, k)
def mkL (fs : List MF) (k : Int) : List AV → List AV × Int
 | [] => ([], k)
 | c :: cs => ((mkF (fs.headD .skip) k c).1 :: (mkL fs.tail (mkF (fs.headD .skip) k c).2 cs).1, (mkL fs.tail (mkF (fs.headD .skip) k c).2 cs).2)
end
mutual
def cntF (f : MF) : AV → Nat
 | .sc v =>
  match f with
  | .skip => 0
  | .sub _ => 0
  | _ => 1
 | .ro n cells =>
  match f with
  | .sub fs => cntL (repF n fs) cells
  | _ => 0
 | _ => 0
def cntL (fs : List MF) : List AV → Nat
 | [] => 0
 | c :: cs => cntF (fs.headD .skip) c + cntL fs.tail cs
end
mutual
def wfF (f : MF) : AV → Prop
 | .sc v =>
  match f, v with
  | .str, .string _ => True
  | .int, .int .i64 _ => True
  | .bool, .bool _ => True
  | .byt, .int .u8 _ => True
  | .skip, v => leafV v = true
  | _, _ => False
 | .ro n cells =>
  match f with
  | .sub fs => n ≤ 1048576 ∧ cells.length = n * fs.length ∧ wfL (repF n fs) cells
  | _ => False
 | _ => False
def wfL (fs : List MF) : List AV → Prop
 | [] => fs = []
 | c :: cs => fs ≠ [] ∧ wfF (fs.headD .skip) c ∧ wfL fs.tail cs
end
mutual
def nbT : AV → Nat
 | .ro _ cells => 1 + nbL cells
 | .agg cs => nbL cs
 | .tup cs => nbL cs
 | _ => 0
def nbL : List AV → Nat
 | [] => 0
 | c :: cs => nbT c + nbL cs
end
section lists
theorem mkL_cons (f : MF) (fs : List MF) (k : Int) (c : AV) (cs : List AV) : mkL (f :: fs) k (c :: cs) = ((mkF f k c).1 :: (mkL fs (mkF f k c).2 cs).1, (mkL fs (mkF f k c).2 cs).2) := rfl
theorem mkL_append : ∀ (A B : List MF) (k : Int) (X Y : List AV), A.length = X.length → mkL (A ++ B) k (X ++ Y) = ((mkL A k X).1 ++ (mkL B (mkL A k X).2 Y).1, (mkL B (mkL A k X).2 Y).2)
 | [], B, k, [], Y, _ => by simp [mkL]
 | f :: A, B, k, x :: X, Y, h => by
  have ih := mkL_append A B (mkF f k x).2 X Y (by simpa using h)
  rw [List.cons_append, List.cons_append, mkL_cons, mkL_cons, ih]
  rfl
theorem cntL_append : ∀ (A B : List MF) (X Y : List AV), A.length = X.length → cntL (A ++ B) (X ++ Y) = cntL A X + cntL B Y
 | [], B, [], Y, _ => by simp [cntL]
 | f :: A, B, x :: X, Y, h => by
  have ih := cntL_append A B X Y (by simpa using h)
  show cntF f x + cntL (A ++ B) (X ++ Y) = cntF f x + cntL A X + cntL B Y
  rw [ih, Nat.add_assoc]
theorem wfL_cons {f : MF} {fs : List MF} {c : AV} {cs : List AV} : wfL (f :: fs) (c :: cs) ↔ wfF f c ∧ wfL fs cs := by
 show (f :: fs ≠ [] ∧ wfF f c ∧ wfL fs cs) ↔ _
 simp
theorem wfL_len : ∀ {fs : List MF} {cs : List AV}, wfL fs cs → fs.length = cs.length
 | fs, [], h => by
  have : fs = [] := h
  rw [this]
  rfl
 | [], _ :: _, h => absurd rfl h.1
 | f :: fs, c :: cs, h => by
  have := wfL_len (wfL_cons.1 h).2
  simp [this]
theorem wfL_append : ∀ {A B : List MF} {X Y : List AV}, A.length = X.length → (wfL (A ++ B) (X ++ Y) ↔ wfL A X ∧ wfL B Y)
 | [], B, [], Y, _ => by
  show _ ↔ (([] : List MF) = [] ∧ _)
  simp
 | f :: A, B, x :: X, Y, h => by
  have ih := wfL_append (A := A) (B := B) (X := X) (Y := Y) (by simpa using h)
  rw [List.cons_append, List.cons_append, wfL_cons, wfL_cons, ih, and_assoc]
mutual
theorem mkF_cnt : ∀ (x : AV) (f : MF) (k : Int), (mkF f k x).2 = k + cntF f x
 | .sc v, f, k => by cases f <;> simp [mkF, cntF]
 | .ro n cells, f, k => by
  cases f <;> first | (simp [mkF, cntF]; done) | exact mkL_cnt cells _ k
 | .agg cs, f, k => by simp [mkF, cntF]
 | .tup cs, f, k => by simp [mkF, cntF]
 | .any, f, k => by simp [mkF, cntF]
 | .nl, f, k => by simp [mkF, cntF]
 | .sl .., f, k => by simp [mkF, cntF]
 | .ptr .., f, k => by simp [mkF, cntF]
 | .rp .., f, k => by simp [mkF, cntF]
 | .fn .., f, k => by simp [mkF, cntF]
theorem mkL_cnt : ∀ (cs : List AV) (fs : List MF) (k : Int), (mkL fs k cs).2 = k + cntL fs cs
 | [], fs, k => by simp [mkL, cntL]
 | c :: cs, fs, k => by
  show (mkL fs.tail (mkF (fs.headD .skip) k c).2 cs).2 = k + ((cntF (fs.headD .skip) c + cntL fs.tail cs : Nat) : Int)
  rw [mkL_cnt cs, mkF_cnt c]
  omega
end
theorem mkL_len : ∀ (cs : List AV) (fs : List MF) (k : Int), (mkL fs k cs).1.length = cs.length
 | [], fs, k => by simp [mkL]
 | c :: cs, fs, k => by
  show (mkL fs.tail _ cs).1.length + 1 = cs.length + 1
  rw [mkL_len cs]
mutual
theorem mkF_nb : ∀ (x : AV) (f : MF) (k : Int), nbT (mkF f k x).1 = nbT x
 | .sc v, f, k => by cases f <;> rfl
 | .ro n cells, f, k => by
  cases f <;> first | rfl | (show 1 + nbL _ = 1 + nbL _; rw [mkL_nb cells])
 | .agg cs, f, k => by simp [mkF]
 | .tup cs, f, k => by simp [mkF]
 | .any, f, k => by simp [mkF]
 | .nl, f, k => by simp [mkF]
 | .sl .., f, k => by simp [mkF]
 | .ptr .., f, k => by simp [mkF]
 | .rp .., f, k => by simp [mkF]
 | .fn .., f, k => by simp [mkF]
theorem mkL_nb : ∀ (cs : List AV) (fs : List MF) (k : Int), nbL (mkL fs k cs).1 = nbL cs
 | [], fs, k => by simp [mkL]
 | c :: cs, fs, k => by
  show nbT (mkF (fs.headD .skip) k c).1 + nbL (mkL fs.tail _ cs).1 = nbT c + nbL cs
  rw [mkF_nb c, mkL_nb cs]
end
mutual
theorem inst_nb {ti : Nat → Option TI} {tp : Nat → Option (List Nat)} : ∀ (x : AV) (N ty : Nat), (instT ti tp N ty x).2.length = nbT x
 | .sc v, N, ty => rfl
 | .ro n cells, N, ty => by
  simp only [instT, List.length_cons, nbT, instL_nb cells, Nat.add_comm]
 | .agg cs, N, ty => instL_nb cs _ _
 | .tup cs, N, ty => instL_nb cs _ _
 | .any, N, ty => rfl
 | .nl, N, ty => rfl
 | .sl .., N, ty => rfl
 | .ptr .., N, ty => rfl
 | .rp .., N, ty => rfl
 | .fn .., N, ty => rfl
theorem instL_nb {ti : Nat → Option TI} {tp : Nat → Option (List Nat)} : ∀ (cs : List AV) (N : Nat) (ts : List Nat), (instL ti tp N ts cs).2.length = nbL cs
 | [], N, ts => rfl
 | c :: cs, N, ts => by
  simp only [instL, List.length_append, nbL, inst_nb c, instL_nb cs]
end
theorem nbL_append : ∀ (X Y : List AV), nbL (X ++ Y) = nbL X + nbL Y
 | [], Y => by simp [nbL]
 | c :: X, Y => by
  show nbT c + nbL (X ++ Y) = nbT c + nbL X + nbL Y
  rw [nbL_append X Y, Nat.add_assoc]
theorem inst_mid {ti : Nat → Option TI} {tp : Nat → Option (List Nat)} (TP TS : List Nat) (t : Nat) (P S : List AV) (c : AV) (N : Nat) (h : TP.length = P.length) :
  instL ti tp N (TP ++ t :: TS) (P ++ c :: S) = ((instL ti tp N TP P).1 ++ (instT ti tp (N + nbL P) t c).1 :: (instL ti tp (N + nbL P + nbT c) TS S).1, (instL ti tp N TP P).2 ++ ((instT ti tp (N + nbL P) t c).2 ++ (instL ti tp (N + nbL P + nbT c) TS S).2)) := by
 rw [instL_append TP P (t :: TS) (c :: S) N h, instL_nb]
 have e : instL ti tp (N + nbL P) (t :: TS) (c :: S) = ((instT ti tp (N + nbL P) t c).1 :: (instL ti tp (N + nbL P + nbT c) TS S).1, (instT ti tp (N + nbL P) t c).2 ++ (instL ti tp (N + nbL P + nbT c) TS S).2) := by
  rw [instL, inst_nb]
  rfl
 rw [e]
end lists
section steps
variable {β : Type} {n : Nat} {r : Option β}
noncomputable def SB (N : Nat) (T : List Nat) (cells : List AV) : List Blk := ⟨(instL ti0 E0.tp (N + 1) T cells).1, true, true⟩ :: (instL ti0 E0.tp (N + 1) T cells).2
theorem inst_SB {ty len : Nat} {cells : List AV} {i j : TI} (h1 : ti0 ty = some i) (h2 : ti0 i.elem = some j) (N : Nat) : instT ti0 E0.tp N ty (.ro len cells) = (.sl N 0 len j.size, SB N (List.replicate len j.cty).flatten cells) := by
 simp only [instT, h1, Option.bind_some, h2, Option.getD_some]
 rfl
theorem sb_store {A C : Heap} {TP TS : List Nat} {t p : Nat} {P S : List AV} {v0 v : Value} (hT : TP.length = P.length) (hv : leafV v = true) (hp : p = P.length) (K : Heap → Option β) :
  pStore 1 (.ptr A.length p) (.sc v) (A ++ (SB A.length (TP ++ t :: TS) (P ++ .sc v0 :: S) ++ C)) K = K (A ++ (SB A.length (TP ++ t :: TS) (P ++ .sc v :: S) ++ C)) := by
 have hc : cellsA (.sc v) = some [.sc v] := by simp only [cellsA, isLeaf, hv, if_true]
 have hl : (instL ti0 E0.tp (A.length + 1) TP P).1.length = P.length := instL_len _ _ _
 simp only [SB, inst_mid TP TS t P S _ _ hT, instT_sc, nbT, List.cons_append]
 rw [st_at 1 A.length p (.sc v) _ _ _ _ (get_at A _ _) hc rfl (by simp [hl, hp]) rfl, set_at]
 have := splice_mid (instL ti0 E0.tp (A.length + 1) TP P).1 [.sc v0] (instL ti0 E0.tp (A.length + 1 + nbL P + 0) TS S).1 [.sc v] rfl
 simp only [List.singleton_append, hl] at this
 rw [hp, this]
theorem sb_load {A C : Heap} {TP TS : List Nat} {t p : Nat} {P S : List AV} {c : AV} (hT : TP.length = P.length) (hp : p = P.length) (K : AV → Option β) :
  pLoad false 1 (.ptr A.length p) (A ++ (SB A.length (TP ++ t :: TS) (P ++ c :: S) ++ C)) K = K (instT ti0 E0.tp (A.length + 1 + nbL P) t c).1 := by
 have hl : (instL ti0 E0.tp (A.length + 1) TP P).1.length = P.length := instL_len _ _ _
 simp only [SB, inst_mid TP TS t P S _ _ hT, List.cons_append]
 refine ldF ?_ K
 have : p + 1 ≤ ((instL ti0 E0.tp (A.length + 1) TP P).1 ++ (instT ti0 E0.tp (A.length + 1 + nbL P) t c).1 :: (instL ti0 E0.tp (A.length + 1 + nbL P + nbT c) TS S).1).length := by simp [hl, hp]
 simp only [rdCells, get_at, if_true, this]
 rw [hp, ← hl, List.drop_append_of_le_length (Nat.le_refl _), List.drop_length]
 rfl
def MarkC (n f ty : Nat) (t t' : AV) (k k' : Int) : Prop := ∀ (β : Type) (A C : Heap) (K : AV → Heap → Option β) (r : Option β),
 (∀ X, K (.sc (.int .i64 k')) (A ++ ((instT ti0 E0.tp A.length ty t').2 ++ (C ++ X))) = r) → evalFn E0 n β f [(instT ti0 E0.tp A.length ty t).1, .sc (.int .i64 k)] (A ++ ((instT ti0 E0.tp A.length ty t).2 ++ C)) K = r
theorem PR_hm {ty : Nat} {f : FuncId} {args : List AV} {H : Heap} {K : AV → Heap → Option β} (hh : E0.hm f = true) (hx : E0.ext f = none) : (PR n β).call ty (.fn f [] []) args H K = evalFn E0 n β f args H K := by
 show callF E0 (evalFn E0 n) ty f ([] ++ args ++ []) H K = _
 simp only [callF, hx, hh, List.nil_append, List.append_nil, if_true]
theorem ms_sub {A C : Heap} {TP TS : List Nat} {t p ty g : Nat} {P S : List AV} {c c' : AV} {k k' : Int} {K : AV → Heap → Option β} (hT : TP.length = P.length) (hp : p = P.length) (hh : E0.hm g = true) (hx : E0.ext g = none) (hmk : MarkC n g t c c' k k') (hs : ∀ M, (instT ti0 E0.tp M t c').1 = (instT ti0 E0.tp M t c).1) (hn : nbT c' = nbT c)
  (h : ∀ X, K (.sc (.int .i64 k')) (A ++ (SB A.length (TP ++ t :: TS) (P ++ c' :: S) ++ (C ++ X))) = r) :
  (pLoad false 1 (.ptr A.length p) (A ++ (SB A.length (TP ++ t :: TS) (P ++ c :: S) ++ C)) fun v => (PR n β).call ty (.fn g [] []) [v, .sc (.int .i64 k)] (A ++ (SB A.length (TP ++ t :: TS) (P ++ c :: S) ++ C)) K) = r := by
 rw [sb_load hT hp, PR_hm hh hx]
 have e : ∀ (d : AV) (D : Heap), A ++ (SB A.length (TP ++ t :: TS) (P ++ d :: S) ++ D) = (A ++ ⟨(instL ti0 E0.tp (A.length + 1) TP P).1 ++ (instT ti0 E0.tp (A.length + 1 + nbL P) t d).1 :: (instL ti0 E0.tp (A.length + 1 + nbL P + nbT d) TS S).1, true, true⟩ :: (instL ti0 E0.tp (A.length + 1) TP P).2) ++ ((instT ti0 E0.tp (A.length + 1 + nbL P) t d).2 ++ ((instL ti0 E0.tp (A.length + 1 + nbL P + nbT d) TS S).2 ++ D)) := by
  intro d D
  simp only [SB, inst_mid TP TS t P S _ _ hT, List.cons_append, List.append_assoc]
 have hN : ∀ b : Blk, (A ++ b :: (instL ti0 E0.tp (A.length + 1) TP P).2).length = A.length + 1 + nbL P := by
  intro b
  rw [List.length_append, List.length_cons, instL_nb]
  omega
 rw [e c C]
 have key := hmk β (A ++ ⟨(instL ti0 E0.tp (A.length + 1) TP P).1 ++ (instT ti0 E0.tp (A.length + 1 + nbL P) t c).1 :: (instL ti0 E0.tp (A.length + 1 + nbL P + nbT c) TS S).1, true, true⟩ :: (instL ti0 E0.tp (A.length + 1) TP P).2) ((instL ti0 E0.tp (A.length + 1 + nbL P + nbT c) TS S).2 ++ C) K r
 rw [hN] at key
 refine key fun X => ?_
 have h2 := h X
 rw [e c' (C ++ X), hs, hn] at h2
 simp only [List.append_assoc, List.cons_append] at h2 ⊢
 exact h2
end steps
structure FD where
 f : MF
 path : List Nat
 g : FuncId
def TxtOk (n tS g : Nat) : Prop := plainF g = false ∧ ∀ k : Int, 0 ≤ k → k ≤ 4611686018427387904 → tree E0 n tS g [.sc (.int .i64 k)] = some (.sc (.string (mTxt k)))
def MarkOk (n g ty : Nat) (fs : List MF) : Prop := E0.hm g = true ∧ E0.ext g = none ∧ (∃ i j, ti0 ty = some i ∧ ti0 i.elem = some j) ∧ ∀ (len : Nat) (cells : List AV) (k : Int), wfF (.sub fs) (.ro len cells) → 0 ≤ k → k + cntF (.sub fs) (.ro len cells) ≤ 4611686018427387904 →
 MarkC n g ty (.ro len cells) (mkF (.sub fs) k (.ro len cells)).1 k (mkF (.sub fs) k (.ro len cells)).2
def HeldOk (n g : Nat) (fs : List MF) : Prop := plainF g = false ∧ ∀ (ty len : Nat) (cells : List AV) (k : Int), wfF (.sub fs) (.ro len cells) → 0 ≤ k → k + cntF (.sub fs) (.ro len cells) ≤ 4611686018427387904 →
 tree E0 n ty g [(mkF (.sub fs) k (.ro len cells)).1, .sc (.int .i64 k)] = some (.sc (.int .i64 (mkF (.sub fs) k (.ro len cells)).2))
def subM (n t g : Nat) : MF → Prop
 | .sub fs => MarkOk n g t fs
 | _ => True
def subH (n g : Nat) : MF → Prop
 | .sub fs => HeldOk n g fs
 | _ => True
def FdsM (n : Nat) : Nat → List FD → List Nat → Prop
 | off, fd :: r, t :: ts => fd.path.sum = off ∧ subM n t fd.g fd.f ∧ FdsM n (off + 1) r ts
 | _, [], [] => True
 | _, _, _ => False
def FdsH (n : Nat) : Nat → List FD → Prop
 | off, fd :: r => fd.path.sum = off ∧ subH n fd.g fd.f ∧ FdsH n (off + 1) r
 | _, [] => True
section fns
variable {β : Type}
def fadrs (p : Pr β) : List Nat → AV → (AV → Option β) → Option β
 | [], x, K => K x
 | o :: r, x, K => p.fadr o x fun t => fadrs p r t K
def bodyM (p : Pr β) (tS tI gT w : Nat) (a i : AV) : List FD → AV → Heap → (AV → Heap → Option β) → Option β
 | [], k, H, K => K k H
 | ⟨.str, path, _⟩ :: r, k, H, K => p.call tS (.fn gT [] []) [k] H fun s H => p.iadr w a i fun t => fadrs p path t fun t => p.store 1 t s H fun H => p.bin .add k (.sc (.int .i64 1)) fun k => bodyM p tS tI gT w a i r k H K
 | ⟨.int, path, _⟩ :: r, k, H, K => p.iadr w a i fun t => fadrs p path t fun t => p.store 1 t k H fun H => p.bin .add k (.sc (.int .i64 1)) fun k => bodyM p tS tI gT w a i r k H K
 | ⟨.bool, path, _⟩ :: r, k, H, K => p.bin .rem k (.sc (.int .i64 3)) fun q => p.bin .eql q (.sc (.int .i64 0)) fun b => p.iadr w a i fun t => fadrs p path t fun t => p.store 1 t b H fun H => p.bin .add k (.sc (.int .i64 1)) fun k => bodyM p tS tI gT w a i r k H K
 | ⟨.byt, path, _⟩ :: r, k, H, K => p.cvI .u8 k fun c => p.iadr w a i fun t => fadrs p path t fun t => p.store 1 t c H fun H => p.bin .add k (.sc (.int .i64 1)) fun k => bodyM p tS tI gT w a i r k H K
 | ⟨.sub _, path, g⟩ :: r, k, H, K => p.iadr w a i fun t => fadrs p path t fun t => p.load false 1 t H fun v => p.call tI (.fn g [] []) [v, k] H fun k H => bodyM p tS tI gT w a i r k H K
 | ⟨.skip, _, _⟩ :: r, k, H, K => bodyM p tS tI gT w a i r k H K
def bodyH (p : Pr β) (tS tI gT w : Nat) (a i : AV) (F : Heap → Option β) : List FD → AV → Heap → (AV → Heap → Option β) → Option β
 | [], k, H, K => K k H
 | ⟨.str, path, _⟩ :: r, k, H, K => p.iadr w a i fun t => fadrs p path t fun t => p.load false 1 t H fun v => p.call tS (.fn gT [] []) [k] H fun s H => p.bin .neq v s fun b => p.cond b (F H) (p.bin .add k (.sc (.int .i64 1)) fun k => bodyH p tS tI gT w a i F r k H K)
 | ⟨.int, path, _⟩ :: r, k, H, K => p.iadr w a i fun t => fadrs p path t fun t => p.load false 1 t H fun v => p.bin .neq v k fun b => p.cond b (F H) (p.bin .add k (.sc (.int .i64 1)) fun k => bodyH p tS tI gT w a i F r k H K)
 | ⟨.bool, path, _⟩ :: r, k, H, K => p.iadr w a i fun t => fadrs p path t fun t => p.load false 1 t H fun v => p.bin .rem k (.sc (.int .i64 3)) fun q => p.bin .eql q (.sc (.int .i64 0)) fun e => p.binB .neq v e fun b => p.cond b (F H) (p.bin .add k (.sc (.int .i64 1)) fun k => bodyH p tS tI gT w a i F r k H K)
 | ⟨.byt, path, _⟩ :: r, k, H, K => p.iadr w a i fun t => fadrs p path t fun t => p.load false 1 t H fun v => p.cvI .u8 k fun c => p.bin .neq v c fun b => p.cond b (F H) (p.bin .add k (.sc (.int .i64 1)) fun k => bodyH p tS tI gT w a i F r k H K)
 | ⟨.sub _, path, g⟩ :: r, k, H, K => p.iadr w a i fun t => fadrs p path t fun t => p.load false 1 t H fun v => p.call tI (.fn g [] []) [v, k] H fun k H => p.bin .lss k (.sc (.int .i64 0)) fun b => p.cond b (F H) (bodyH p tS tI gT w a i F r k H K)
 | ⟨.skip, _, _⟩ :: r, k, H, K => bodyH p tS tI gT w a i F r k H K
variable {n : Nat} {res : Option β}
theorem fadrs_ptr : ∀ (path : List Nat) (id off : Nat) (K : AV → Option β), fadrs (PR n β) path (.ptr id off) K = K (.ptr id (off + path.sum))
 | [], id, off, K => rfl
 | o :: r, id, off, K => by
  show fadrs (PR n β) r (.ptr id (off + o)) K = _
  rw [fadrs_ptr r, List.sum_cons, Nat.add_assoc]
theorem fadrs_rp : ∀ (path : List Nat) (cells : List AV) (K : AV → Option β), fadrs (PR n β) path (.rp cells) K = K (.rp (cells.drop path.sum))
 | [], cells, K => by simp [fadrs]
 | o :: r, cells, K => by
  show fadrs (PR n β) r (.rp (cells.drop o)) K = _
  rw [fadrs_rp r, List.sum_cons, List.drop_drop]
theorem add1 (k : Int) (K : AV → Option β) (h0 : 0 ≤ k) (h1 : k ≤ 4611686018427387904) : pBin .add (.sc (.int .i64 k)) (.sc (.int .i64 1)) K = K (.sc (.int .i64 (k + 1))) := by
 show K (.sc (.int .i64 (IntKind.i64.wrap (k + 1)))) = _
 rw [wrap64 _ (by omega) (by omega)]
theorem rem3 (k : Int) (K : AV → Option β) : (pBin .rem (.sc (.int .i64 k)) (.sc (.int .i64 3)) fun q => pBin .eql q (.sc (.int .i64 0)) K) = K (.sc (.bool (k.tmod 3 == 0))) := rfl
theorem cv8 (k : Int) (K : AV → Option β) : pCvI .u8 (.sc (.int .i64 k)) K = K (.sc (.int .u8 (IntKind.u8.wrap k))) := rfl
theorem call_txt {tS gT : Nat} (h : TxtOk n tS gT) {k : Int} (h0 : 0 ≤ k) (h1 : k ≤ 4611686018427387904) (H : Heap) (K : AV → Heap → Option β) : (PR n β).call tS (.fn gT [] []) [.sc (.int .i64 k)] H K = K (.sc (.string (mTxt k))) H := by
 rw [PR_call (vs := [.sc (.int .i64 k)]) h.1 rfl (h.2 k h0 h1), instT_sc, List.append_nil]
theorem body_m {tS tI gT w len i : Nat} (hT : TxtOk n tS gT) (hi : i < len) : ∀ (todo : List FD) (off : Nat) (Q R S : List AV) (TP tR TS : List Nat) (k : Int) (A C : Heap) (K : AV → Heap → Option β),
  FdsM n off todo tR → TP.length = Q.length → Q.length = i * w + off → wfL (todo.map FD.f) R → 0 ≤ k → k + cntL (todo.map FD.f) R ≤ 4611686018427387904 →
  (∀ X, K (.sc (.int .i64 (mkL (todo.map FD.f) k R).2)) (A ++ (SB A.length (TP ++ (tR ++ TS)) (Q ++ ((mkL (todo.map FD.f) k R).1 ++ S)) ++ (C ++ X))) = res) →
  bodyM (PR n β) tS tI gT w (.sl A.length 0 len w) (.sc (.int .i64 i)) todo (.sc (.int .i64 k)) (A ++ (SB A.length (TP ++ (tR ++ TS)) (Q ++ (R ++ S)) ++ C)) K = res
 | [], off, Q, R, S, TP, tR, TS, k, A, C, K, hf, ht, hq, hw, h0, h1, h => by
  cases R with
  | nil =>
   have := h []
   simp only [List.append_nil] at this
   exact this
  | cons c R => exact absurd rfl hw.1
 | fd :: todo, off, Q, R, S, TP, tR, TS, k, A, C, K, hf, ht, hq, hw, h0, h1, h => by
  cases R with
  | nil => exact absurd (show fd.f :: todo.map FD.f = [] from hw) (by simp)
  | cons c R =>
  cases tR with
  | nil => exact hf.elim
  | cons t tR =>
  obtain ⟨hpath, hsub, hrest⟩ := hf
  obtain ⟨hwc, hwR⟩ := wfL_cons.1 hw
  have hpl : ∀ K' : AV → Option β, (pIadr w (.sl A.length 0 len w) (.sc (.int .i64 i)) fun t => fadrs (PR n β) fd.path t K') = K' (.ptr A.length Q.length) := fun K' => by
   rw [iadr_sl w _ _ _ _ _ hi, fadrs_ptr, hpath, hq, Nat.zero_add]
  have hcnt : cntL ((fd :: todo).map FD.f) (c :: R) = cntF fd.f c + cntL (todo.map FD.f) R := rfl
  have hmk : mkL ((fd :: todo).map FD.f) k (c :: R) = ((mkF fd.f k c).1 :: (mkL (todo.map FD.f) (mkF fd.f k c).2 R).1, (mkL (todo.map FD.f) (mkF fd.f k c).2 R).2) := rfl
  rw [hcnt] at h1
  rw [hmk] at h
  have e1 : ∀ (x : AV) (Y : List AV), Q ++ (x :: Y ++ S) = Q ++ x :: (Y ++ S) := fun x Y => rfl
  have e2 : ∀ (x : AV) (Y : List AV), Q ++ x :: (Y ++ S) = (Q ++ [x]) ++ (Y ++ S) := fun x Y => by simp
  have e3 : TP ++ (t :: tR ++ TS) = (TP ++ [t]) ++ (tR ++ TS) := by simp
  have e4 : TP ++ (t :: tR ++ TS) = TP ++ t :: (tR ++ TS) := rfl
  have go : ∀ (c' : AV) (k' : Int) (C : Heap) (K : AV → Heap → Option β), 0 ≤ k' → k' + cntL (todo.map FD.f) R ≤ 4611686018427387904 →
    (∀ X, K (.sc (.int .i64 (mkL (todo.map FD.f) k' R).2)) (A ++ (SB A.length (TP ++ (t :: tR ++ TS)) (Q ++ (c' :: (mkL (todo.map FD.f) k' R).1 ++ S)) ++ (C ++ X))) = res) →
    bodyM (PR n β) tS tI gT w (.sl A.length 0 len w) (.sc (.int .i64 i)) todo (.sc (.int .i64 k')) (A ++ (SB A.length (TP ++ (t :: tR ++ TS)) (Q ++ c' :: (R ++ S)) ++ C)) K = res := by
   intro c' k' C K h0' h1' h'
   have := body_m (tI := tI) (w := w) hT hi todo (off + 1) (Q ++ [c']) R S (TP ++ [t]) tR TS k' A C K hrest (by simp [ht]) (by simp [hq]; omega) hwR h0' h1' (fun X => by
    have := h' X
    rw [e1, e2, e3] at this
    exact this)
   rw [e3, e2]
   exact this
  obtain ⟨f, path, g⟩ := fd
  cases f with
  | skip =>
   have hc : ∃ v, c = .sc v := by
    cases c <;> first | exact ⟨_, rfl⟩ | exact hwc.elim
   obtain ⟨v, rfl⟩ := hc
   exact go (.sc v) k C K h0 (by simpa [cntF] using h1) h
  | sub fs =>
   have hc : ∃ m cells, c = .ro m cells := by
    cases c with
    | ro m cells => exact ⟨m, cells, rfl⟩
    | sc v => exact hwc.elim
    | _ => exact hwc.elim
   obtain ⟨m, cells, rfl⟩ := hc
   obtain ⟨hh, hx, ⟨j1, j2, hj1, hj2⟩, hmk'⟩ := hsub
   have hk' := mkF_cnt (.ro m cells) (.sub fs) k
   have h1 : k + (cntF (.sub fs) (.ro m cells) + cntL (todo.map FD.f) R : Nat) ≤ 4611686018427387904 := h1
   show (pIadr w (.sl A.length 0 len w) (.sc (.int .i64 i)) fun t => fadrs (PR n β) path t fun t => pLoad false 1 t _ fun v => (PR n β).call tI (.fn g [] []) [v, .sc (.int .i64 k)] _ fun k H => bodyM (PR n β) tS tI gT w _ _ todo k H K) = res
   rw [hpl]
   rw [e4, e1]
   refine ms_sub ht rfl hh hx (hmk' m cells k hwc h0 (by omega)) (fun M => ?_) (mkF_nb _ _ _) fun X => ?_
   ·rw [inst_SB hj1 hj2]
    show (instT ti0 E0.tp M t (.ro m _)).1 = _
    rw [inst_SB hj1 hj2]
   ·refine go _ _ (C ++ X) K (by omega) (by omega) fun Y => ?_
    rw [List.append_assoc]
    exact h (X ++ Y)
  | str =>
   have hc : ∃ s, c = .sc (.string s) := by
    cases c with
    | sc v => cases v <;> first | exact ⟨_, rfl⟩ | exact hwc.elim
    | _ => exact hwc.elim
   obtain ⟨v, rfl⟩ := hc
   have h1 : k + (1 + cntL (todo.map FD.f) R : Nat) ≤ 4611686018427387904 := h1
   show (PR n β).call tS (.fn gT [] []) [.sc (.int .i64 k)] _ (fun s H => pIadr w (.sl A.length 0 len w) (.sc (.int .i64 i)) fun t => fadrs (PR n β) path t fun t => pStore 1 t s H fun H => pBin .add (.sc (.int .i64 k)) (.sc (.int .i64 1)) fun k => bodyM (PR n β) tS tI gT w _ _ todo k H K) = res
   rw [call_txt hT h0 (by omega)]
   simp only [hpl]
   rw [e4, e1, sb_store ht rfl rfl, add1 _ _ h0 (by omega)]
   exact go _ _ C K (by omega) (by omega) h
  | int =>
   have hc : ∃ z, c = .sc (.int .i64 z) := by
    cases c with
    | sc v => cases v with
     | int kd z => cases kd <;> first | exact ⟨_, rfl⟩ | exact hwc.elim
     | _ => exact hwc.elim
    | _ => exact hwc.elim
   obtain ⟨v, rfl⟩ := hc
   have h1 : k + (1 + cntL (todo.map FD.f) R : Nat) ≤ 4611686018427387904 := h1
   show (pIadr w (.sl A.length 0 len w) (.sc (.int .i64 i)) fun t => fadrs (PR n β) path t fun t => pStore 1 t (.sc (.int .i64 k)) _ fun H => pBin .add (.sc (.int .i64 k)) (.sc (.int .i64 1)) fun k => bodyM (PR n β) tS tI gT w _ _ todo k H K) = res
   rw [hpl]
   rw [e4, e1, sb_store ht rfl rfl, add1 _ _ h0 (by omega)]
   exact go _ _ C K (by omega) (by omega) h
  | bool =>
   have hc : ∃ b, c = .sc (.bool b) := by
    cases c with
    | sc v => cases v <;> first | exact ⟨_, rfl⟩ | exact hwc.elim
    | _ => exact hwc.elim
   obtain ⟨v, rfl⟩ := hc
   have h1 : k + (1 + cntL (todo.map FD.f) R : Nat) ≤ 4611686018427387904 := h1
   show (pIadr w (.sl A.length 0 len w) (.sc (.int .i64 i)) fun t => fadrs (PR n β) path t fun t => pStore 1 t (.sc (.bool (k.tmod 3 == 0))) _ fun H => pBin .add (.sc (.int .i64 k)) (.sc (.int .i64 1)) fun k => bodyM (PR n β) tS tI gT w _ _ todo k H K) = res
   rw [hpl]
   rw [e4, e1, sb_store ht rfl rfl, add1 _ _ h0 (by omega)]
   exact go _ _ C K (by omega) (by omega) h
  | byt =>
   have hc : ∃ z, c = .sc (.int .u8 z) := by
    cases c with
    | sc v => cases v with
     | int kd z => cases kd <;> first | exact ⟨_, rfl⟩ | exact hwc.elim
     | _ => exact hwc.elim
    | _ => exact hwc.elim
   obtain ⟨v, rfl⟩ := hc
   have h1 : k + (1 + cntL (todo.map FD.f) R : Nat) ≤ 4611686018427387904 := h1
   show (pIadr w (.sl A.length 0 len w) (.sc (.int .i64 i)) fun t => fadrs (PR n β) path t fun t => pStore 1 t (.sc (.int .u8 (IntKind.u8.wrap k))) _ fun H => pBin .add (.sc (.int .i64 k)) (.sc (.int .i64 1)) fun k => bodyM (PR n β) tS tI gT w _ _ todo k H K) = res
   rw [hpl]
   rw [e4, e1, sb_store ht rfl rfl, add1 _ _ h0 (by omega)]
   exact go _ _ C K (by omega) (by omega) h
end fns
end Go.Proofs.YtejjggnchdldoaaDoor.Abs
set_option linter.unusedVariables false
set_option linter.unusedSimpArgs false
namespace Go.Proofs.YtejjggnchdldoaaDoor.Abs
open Go
variable {β : Type} {n : Nat} {res : Option β}
theorem FdsM_len {n : Nat} : ∀ {off : Nat} {fds : List FD} {ts : List Nat}, FdsM n off fds ts → fds.length = ts.length
 | _, [], [], _ => rfl
 | _, _ :: _, _ :: _, h => by simp [FdsM_len h.2.2]
 | _, [], _ :: _, h => h.elim
 | _, _ :: _, [], h => h.elim
theorem len_sl (id off m w : Nat) (k : AV → Option β) : pLen (.sl id off m w) k = k (.sc (.int .i64 m)) := rfl
theorem loop_m {tS tI gT w len : Nat} {cty : List Nat} {fds : List FD} (hT : TxtOk n tS gT) (hf : FdsM n 0 fds cty) (hw : fds.length = w) (hlen : len ≤ 1048576) (L : Nat → AV → AV → AV → Heap → Option β) (kk : AV → Heap → Option β)
  (hL : ∀ m a k i H, L (m + 1) a k i H = pLen a fun t8 => pBin .lss i t8 fun t9 => pCond t9 (bodyM (PR n β) tS tI gT w a i fds k H fun k' H => pBin .add i (.sc (.int .i64 1)) fun i' => L m a k' i' H) (kk k H)) :
  ∀ (r i m : Nat) (P S : List AV) (TP : List Nat) (k : Int) (A C : Heap), P.length = i * w → TP.length = P.length → i + r = len → r < m → wfL (repF r (fds.map FD.f)) S → 0 ≤ k → k + cntL (repF r (fds.map FD.f)) S ≤ 4611686018427387904 →
   (∀ X, kk (.sc (.int .i64 (mkL (repF r (fds.map FD.f)) k S).2)) (A ++ (SB A.length (TP ++ (List.replicate r cty).flatten) (P ++ (mkL (repF r (fds.map FD.f)) k S).1) ++ (C ++ X))) = res) →
   L m (.sl A.length 0 len w) (.sc (.int .i64 k)) (.sc (.int .i64 i)) (A ++ (SB A.length (TP ++ (List.replicate r cty).flatten) (P ++ S) ++ C)) = res
 | 0, i, m + 1, P, S, TP, k, A, C, hP, hTP, hr, hm, hwf, h0, h1, h => by
  have hS : S = [] := by
   have := wfL_len hwf
   simp [repF] at this
   exact List.eq_nil_of_length_eq_zero this.symm
  subst hS
  obtain rfl : i = len := by omega
  rw [hL]
  rw [len_sl, lss_nat, cond_b, if_neg (by simp)]
  have := h []
  simp only [List.append_nil, mkL] at this ⊢
  exact this
 | r + 1, i, m + 1, P, S, TP, k, A, C, hP, hTP, hr, hm, hwf, h0, h1, h => by
  have hi : i < len := by omega
  have hml : (fds.map FD.f).length = w := by simp [hw]
  have hSl : S.length = (r + 1) * w := by
   have := wfL_len hwf
   rw [repF_len, hml] at this
   exact this.symm
  obtain ⟨R, S', rfl, hRl⟩ : ∃ R S', S = R ++ S' ∧ R.length = w := ⟨S.take w, S.drop w, (List.take_append_drop w S).symm, by rw [List.length_take, hSl, Nat.succ_mul]; omega⟩
  rw [repF_succ] at hwf h1 h
  have hl : (fds.map FD.f).length = R.length := by rw [hml, hRl]
  obtain ⟨hwR, hwS⟩ := (wfL_append hl).1 hwf
  rw [cntL_append _ _ _ _ hl] at h1
  rw [mkL_append _ _ _ _ _ hl] at h
  have hkc := mkL_cnt R (fds.map FD.f) k
  have hRl' := mkL_len R (fds.map FD.f) k
  have hcl : cty.length = w := by rw [← FdsM_len hf, hw]
  rw [List.replicate_succ, List.flatten_cons] at h ⊢
  rw [hL]
  rw [len_sl, lss_nat, cond_b, if_pos (by simpa using hi)]
  refine body_m (w := w) (tI := tI) hT hi fds 0 P R S' TP cty (List.replicate r cty).flatten k A C _ hf hTP (by rw [hP, Nat.add_zero]) hwR h0 (by omega) fun X => ?_
  rw [inc_nat _ _ (by omega)]
  have ih := loop_m hT hf hw hlen L kk hL r (i + 1) m (P ++ (mkL (fds.map FD.f) k R).1) S' (TP ++ cty) (mkL (fds.map FD.f) k R).2 A (C ++ X) (by rw [List.length_append, hP, hRl', hRl, Nat.succ_mul]) (by rw [List.length_append, List.length_append, hTP, hcl, hRl', hRl]) (by omega) (by omega) hwS (by omega) (by omega) (fun Y => by
   have := h (X ++ Y)
   simp only [List.append_assoc] at this ⊢
   exact this)
  simp only [List.append_assoc] at ih ⊢
  exact ih
theorem mark_ok {tS tI gT w f tyS : Nat} {cty : List Nat} {fds : List FD} (hh : E0.hm f = true) (hx : E0.ext f = none) (hT : TxtOk n tS gT) (hf : FdsM n 0 fds cty) (hw : fds.length = w) (hty : ∃ i j, ti0 tyS = some i ∧ ti0 i.elem = some j ∧ j.size = w ∧ j.cty = cty) (hn : 1048576 < n)
  (L : (β : Type) → (AV → Heap → Option β) → Nat → AV → AV → AV → Heap → Option β)
  (hL : ∀ β kk m a k i H, L β kk (m + 1) a k i H = pLen a fun t8 => pBin .lss i t8 fun t9 => pCond t9 (bodyM (PR n β) tS tI gT w a i fds k H fun k' H => pBin .add i (.sc (.int .i64 1)) fun i' => L β kk m a k' i' H) (kk k H))
  (hF : ∀ β a b H kk, evalFn E0 (n + 1) β f [a, b] H kk = L β kk n a b (.sc (.int .i64 0)) H) : MarkOk (n + 1) f tyS (fds.map FD.f) := by
 obtain ⟨ti, tj, h1, h2, h3, h4⟩ := hty
 refine ⟨hh, hx, ⟨ti, tj, h1, h2⟩, fun len cells k hwf h0 hb => ?_⟩
 intro β A C K r h
 obtain ⟨hlen, hcl, hwl⟩ := (show len ≤ 1048576 ∧ cells.length = len * (fds.map FD.f).length ∧ wfL (repF len (fds.map FD.f)) cells from hwf)
 rw [hF, inst_SB h1 h2, h3, h4]
 have hmk : mkF (.sub (fds.map FD.f)) k (.ro len cells) = (.ro len (mkL (repF len (fds.map FD.f)) k cells).1, (mkL (repF len (fds.map FD.f)) k cells).2) := rfl
 rw [hmk] at h
 simp only [inst_SB h1 h2, h3, h4] at h
 exact loop_m (n := n) (cty := cty) hT hf hw hlen (L β K) K (hL β K) len 0 n [] cells [] k A C (by simp) rfl (by omega) (by omega) hwl h0 hb h
theorem body_h {tS tI gT w len i : Nat} {F : Heap → Option β} (hT : TxtOk n tS gT) (hi : i < len) (cells : List AV) (hw0 : i * w < cells.length) : ∀ (todo : List FD) (off : Nat) (Q R S : List AV) (k : Int) (H : Heap) (K : AV → Heap → Option β),
  FdsH n off todo → Q.length = i * w + off → wfL (todo.map FD.f) R → 0 ≤ k → k + cntL (todo.map FD.f) R ≤ 4611686018427387904 → cells = Q ++ ((mkL (todo.map FD.f) k R).1 ++ S) →
  (∀ X, K (.sc (.int .i64 (mkL (todo.map FD.f) k R).2)) (H ++ X) = res) →
  bodyH (PR n β) tS tI gT w (.ro len cells) (.sc (.int .i64 i)) F todo (.sc (.int .i64 k)) H K = res
 | [], off, Q, R, S, k, H, K, hf, hq, hw, h0, h1, hc, h => by
  cases R with
  | nil =>
   have := h []
   rw [List.append_nil] at this
   exact this
  | cons c R => exact absurd rfl hw.1
 | fd :: todo, off, Q, R, S, k, H, K, hf, hq, hw, h0, h1, hc, h => by
  cases R with
  | nil => exact absurd (show fd.f :: todo.map FD.f = [] from hw) (by simp)
  | cons c R =>
  obtain ⟨hpath, hsub, hrest⟩ := hf
  obtain ⟨hwc, hwR⟩ := wfL_cons.1 hw
  have hmk : mkL ((fd :: todo).map FD.f) k (c :: R) = ((mkF fd.f k c).1 :: (mkL (todo.map FD.f) (mkF fd.f k c).2 R).1, (mkL (todo.map FD.f) (mkF fd.f k c).2 R).2) := rfl
  rw [hmk] at h hc
  have hcells : cells = Q ++ (mkF fd.f k c).1 :: ((mkL (todo.map FD.f) (mkF fd.f k c).2 R).1 ++ S) := hc
  have hpl : ∀ K' : AV → Option β, (pIadr w (.ro len cells) (.sc (.int .i64 i)) fun t => fadrs (PR n β) fd.path t fun t => pLoad false 1 t H K') = K' (mkF fd.f k c).1 := fun K' => by
   rw [iadr_ro w _ _ i _ hi hw0, fadrs_rp, hpath, List.drop_drop, ← hq]
   conv => lhs; rw [hcells]
   rw [List.drop_append_of_le_length (Nat.le_refl _), List.drop_length, List.nil_append, ld1_rp]
  have go : ∀ (H' : Heap), (∀ X, K (.sc (.int .i64 (mkL (todo.map FD.f) (mkF fd.f k c).2 R).2)) (H' ++ X) = res) → 0 ≤ (mkF fd.f k c).2 → (mkF fd.f k c).2 + cntL (todo.map FD.f) R ≤ 4611686018427387904 →
    bodyH (PR n β) tS tI gT w (.ro len cells) (.sc (.int .i64 i)) F todo (.sc (.int .i64 (mkF fd.f k c).2)) H' K = res := by
   intro H' h' g0 g1
   exact body_h hT hi cells hw0 todo (off + 1) (Q ++ [(mkF fd.f k c).1]) R S (mkF fd.f k c).2 H' K hrest (by simp [hq]; omega) hwR g0 g1 (by rw [hcells]; simp) h'
  have hcnt := mkF_cnt c fd.f k
  have h1 : k + (cntF fd.f c + cntL (todo.map FD.f) R : Nat) ≤ 4611686018427387904 := h1
  obtain ⟨f, path, g⟩ := fd
  simp only at hcnt h1 hpl go h
  cases f with
  | skip =>
   have hc : ∃ v, c = .sc v := by
    cases c <;> first | exact ⟨_, rfl⟩ | exact hwc.elim
   obtain ⟨v, rfl⟩ := hc
   exact go H h h0 (by simpa [cntF, mkF] using h1)
  | sub fs =>
   have hc : ∃ m cells, c = .ro m cells := by
    cases c with
    | ro m cells => exact ⟨m, cells, rfl⟩
    | sc v => exact hwc.elim
    | _ => exact hwc.elim
   obtain ⟨m, cs, rfl⟩ := hc
   obtain ⟨hh, hhe⟩ := hsub
   show (pIadr w (.ro len cells) (.sc (.int .i64 i)) fun t => fadrs (PR n β) path t fun t => pLoad false 1 t H fun v => (PR n β).call tI (.fn g [] []) [v, .sc (.int .i64 k)] H fun k H => pBin .lss k (.sc (.int .i64 0)) fun b => pCond b (F H) (bodyH (PR n β) tS tI gT w _ _ F todo k H K)) = res
   rw [hpl, PR_call (vs := [(mkF (.sub fs) k (.ro m cs)).1, .sc (.int .i64 k)]) hh rfl (hhe tI m cs k hwc h0 (by omega)), instT_sc, List.append_nil]
   simp only
   rw [lss64, cond_b, if_neg (by simp; omega)]
   exact go H h (by omega) (by omega)
  | str =>
   have hc : ∃ s, c = .sc (.string s) := by
    cases c with
    | sc v => cases v <;> first | exact ⟨_, rfl⟩ | exact hwc.elim
    | _ => exact hwc.elim
   obtain ⟨v, rfl⟩ := hc
   have h1 : k + (1 + cntL (todo.map FD.f) R : Nat) ≤ 4611686018427387904 := h1
   have hpl' : ∀ K' : AV → Option β, (pIadr w (.ro len cells) (.sc (.int .i64 i)) fun t => fadrs (PR n β) path t fun t => pLoad false 1 t H K') = K' (.sc (.string (mTxt k))) := hpl
   show (pIadr w (.ro len cells) (.sc (.int .i64 i)) fun t => fadrs (PR n β) path t fun t => pLoad false 1 t H fun v => (PR n β).call tS (.fn gT [] []) [.sc (.int .i64 k)] H fun s H => pBin .neq v s fun b => pCond b (F H) (pBin .add (.sc (.int .i64 k)) (.sc (.int .i64 1)) fun k => bodyH (PR n β) tS tI gT w _ _ F todo k H K)) = res
   rw [hpl', call_txt hT h0 (by omega), neqS]
   simp only [beq_self_eq_true, Bool.not_true]
   rw [cond_b, if_neg (by simp), add1 _ _ h0 (by omega)]
   exact go H h (by show 0 ≤ k + 1; omega) (by show k + 1 + _ ≤ _; omega)
  | int =>
   have hc : ∃ z, c = .sc (.int .i64 z) := by
    cases c with
    | sc v => cases v with
     | int kd z => cases kd <;> first | exact ⟨_, rfl⟩ | exact hwc.elim
     | _ => exact hwc.elim
    | _ => exact hwc.elim
   obtain ⟨v, rfl⟩ := hc
   have h1 : k + (1 + cntL (todo.map FD.f) R : Nat) ≤ 4611686018427387904 := h1
   have hpl' : ∀ K' : AV → Option β, (pIadr w (.ro len cells) (.sc (.int .i64 i)) fun t => fadrs (PR n β) path t fun t => pLoad false 1 t H K') = K' (.sc (.int .i64 k)) := hpl
   show (pIadr w (.ro len cells) (.sc (.int .i64 i)) fun t => fadrs (PR n β) path t fun t => pLoad false 1 t H fun v => pBin .neq v (.sc (.int .i64 k)) fun b => pCond b (F H) (pBin .add (.sc (.int .i64 k)) (.sc (.int .i64 1)) fun k => bodyH (PR n β) tS tI gT w _ _ F todo k H K)) = res
   rw [hpl', neq64]
   simp only [bne_self_eq_false]
   rw [cond_b, if_neg (by simp), add1 _ _ h0 (by omega)]
   exact go H h (by show 0 ≤ k + 1; omega) (by show k + 1 + _ ≤ _; omega)
  | bool =>
   have hc : ∃ b, c = .sc (.bool b) := by
    cases c with
    | sc v => cases v <;> first | exact ⟨_, rfl⟩ | exact hwc.elim
    | _ => exact hwc.elim
   obtain ⟨v, rfl⟩ := hc
   have h1 : k + (1 + cntL (todo.map FD.f) R : Nat) ≤ 4611686018427387904 := h1
   have hpl' : ∀ K' : AV → Option β, (pIadr w (.ro len cells) (.sc (.int .i64 i)) fun t => fadrs (PR n β) path t fun t => pLoad false 1 t H K') = K' (.sc (.bool (k.tmod 3 == 0))) := hpl
   show (pIadr w (.ro len cells) (.sc (.int .i64 i)) fun t => fadrs (PR n β) path t fun t => pLoad false 1 t H fun v => pBinB .neq v (.sc (.bool (k.tmod 3 == 0))) fun b => pCond b (F H) (pBin .add (.sc (.int .i64 k)) (.sc (.int .i64 1)) fun k => bodyH (PR n β) tS tI gT w _ _ F todo k H K)) = res
   rw [hpl', neqB]
   simp only [beq_self_eq_true, Bool.not_true]
   rw [cond_b, if_neg (by simp), add1 _ _ h0 (by omega)]
   exact go H h (by show 0 ≤ k + 1; omega) (by show k + 1 + _ ≤ _; omega)
  | byt =>
   have hc : ∃ z, c = .sc (.int .u8 z) := by
    cases c with
    | sc v => cases v with
     | int kd z => cases kd <;> first | exact ⟨_, rfl⟩ | exact hwc.elim
     | _ => exact hwc.elim
    | _ => exact hwc.elim
   obtain ⟨v, rfl⟩ := hc
   have h1 : k + (1 + cntL (todo.map FD.f) R : Nat) ≤ 4611686018427387904 := h1
   have hpl' : ∀ K' : AV → Option β, (pIadr w (.ro len cells) (.sc (.int .i64 i)) fun t => fadrs (PR n β) path t fun t => pLoad false 1 t H K') = K' (.sc (.int .u8 (IntKind.u8.wrap k))) := hpl
   show (pIadr w (.ro len cells) (.sc (.int .i64 i)) fun t => fadrs (PR n β) path t fun t => pLoad false 1 t H fun v => pBin .neq v (.sc (.int .u8 (IntKind.u8.wrap k))) fun b => pCond b (F H) (pBin .add (.sc (.int .i64 k)) (.sc (.int .i64 1)) fun k => bodyH (PR n β) tS tI gT w _ _ F todo k H K)) = res
   rw [hpl']
   show pCond (.sc (.bool (IntKind.u8.wrap k != IntKind.u8.wrap k))) _ _ = res
   simp only [bne_self_eq_false]
   rw [cond_b, if_neg (by simp), add1 _ _ h0 (by omega)]
   exact go H h (by show 0 ≤ k + 1; omega) (by show k + 1 + _ ≤ _; omega)
theorem loop_h {tS tI gT w len : Nat} {fds : List FD} (hT : TxtOk n tS gT) (hf : FdsH n 0 fds) (hw : fds.length = w) (hw0 : 0 < w) (hlen : len ≤ 1048576) (cells : List AV) (L : Nat → AV → AV → AV → Heap → Option β) (kk : AV → Heap → Option β)
  (hL : ∀ m a k i H, L (m + 1) a k i H = pLen a fun t8 => pBin .lss i t8 fun t9 => pCond t9 (bodyH (PR n β) tS tI gT w a i (fun H => kk (.sc (.int .i64 (-1))) H) fds k H fun k' H => pBin .add i (.sc (.int .i64 1)) fun i' => L m a k' i' H) (kk k H)) :
  ∀ (r i m : Nat) (P S : List AV) (k : Int) (H : Heap), P.length = i * w → i + r = len → r < m → wfL (repF r (fds.map FD.f)) S → 0 ≤ k → k + cntL (repF r (fds.map FD.f)) S ≤ 4611686018427387904 → cells = P ++ (mkL (repF r (fds.map FD.f)) k S).1 →
   (∀ X, kk (.sc (.int .i64 (mkL (repF r (fds.map FD.f)) k S).2)) (H ++ X) = res) →
   L m (.ro len cells) (.sc (.int .i64 k)) (.sc (.int .i64 i)) H = res
 | 0, i, m + 1, P, S, k, H, hP, hr, hm, hwf, h0, h1, hc, h => by
  have hS : S = [] := by
   have := wfL_len hwf
   simp [repF] at this
   exact List.eq_nil_of_length_eq_zero this.symm
  subst hS
  obtain rfl : i = len := by omega
  rw [hL, len_ro, lss_nat, cond_b, if_neg (by simp)]
  have := h []
  simp only [List.append_nil, mkL] at this ⊢
  exact this
 | r + 1, i, m + 1, P, S, k, H, hP, hr, hm, hwf, h0, h1, hc, h => by
  have hi : i < len := by omega
  have hml : (fds.map FD.f).length = w := by simp [hw]
  have hSl : S.length = (r + 1) * w := by
   have := wfL_len hwf
   rw [repF_len, hml] at this
   exact this.symm
  obtain ⟨R, S', rfl, hRl⟩ : ∃ R S', S = R ++ S' ∧ R.length = w := ⟨S.take w, S.drop w, (List.take_append_drop w S).symm, by rw [List.length_take, hSl, Nat.succ_mul]; omega⟩
  rw [repF_succ] at hwf h1 h hc
  have hl : (fds.map FD.f).length = R.length := by rw [hml, hRl]
  obtain ⟨hwR, hwS⟩ := (wfL_append hl).1 hwf
  rw [cntL_append _ _ _ _ hl] at h1
  rw [mkL_append _ _ _ _ _ hl] at h hc
  have hkc := mkL_cnt R (fds.map FD.f) k
  have hRl' := mkL_len R (fds.map FD.f) k
  have hcl : i * w < cells.length := by
   rw [hc, List.length_append, List.length_append, hRl', hRl, hP]
   omega
  rw [hL, len_ro, lss_nat, cond_b, if_pos (by simpa using hi)]
  refine body_h (w := w) (tI := tI) hT hi cells hcl fds 0 P R (mkL (repF r (fds.map FD.f)) (mkL (fds.map FD.f) k R).2 S').1 k H _ hf (by rw [hP, Nat.add_zero]) hwR h0 (by omega) hc fun X => ?_
  rw [inc_nat _ _ (by omega)]
  exact loop_h hT hf hw hw0 hlen cells L kk hL r (i + 1) m (P ++ (mkL (fds.map FD.f) k R).1) S' (mkL (fds.map FD.f) k R).2 (H ++ X) (by rw [List.length_append, hP, hRl', hRl, Nat.succ_mul]) (by omega) (by omega) hwS (by omega) (by omega) (by rw [hc, List.append_assoc]) (fun Y => by
   have := h (X ++ Y)
   rw [List.append_assoc]
   exact this)
theorem held_ok {tS tI gT w f : Nat} {fds : List FD} (hh : plainF f = false) (hT : TxtOk n tS gT) (hf : FdsH n 0 fds) (hw : fds.length = w) (hw0 : 0 < w) (hn : 1048576 < n)
  (L : (AV → Heap → Option AV) → Nat → AV → AV → AV → Heap → Option AV)
  (hL : ∀ kk m a k i H, L kk (m + 1) a k i H = pLen a fun t8 => pBin .lss i t8 fun t9 => pCond t9 (bodyH (PR n AV) tS tI gT w a i (fun H => kk (.sc (.int .i64 (-1))) H) fds k H fun k' H => pBin .add i (.sc (.int .i64 1)) fun i' => L kk m a k' i' H) (kk k H))
  (hF : ∀ a b H kk, evalFn E0 (n + 1) AV f [a, b] H kk = L kk n a b (.sc (.int .i64 0)) H) : HeldOk (n + 1) f (fds.map FD.f) := by
 refine ⟨hh, fun ty len cells k hwf h0 hb => ?_⟩
 obtain ⟨hlen, hcl, hwl⟩ := (show len ≤ 1048576 ∧ cells.length = len * (fds.map FD.f).length ∧ wfL (repF len (fds.map FD.f)) cells from hwf)
 rw [tree_def, hF]
 exact loop_h (n := n) hT hf hw hw0 hlen (mkL (repF len (fds.map FD.f)) k cells).1 (L fun x H => ownTree ti0 E0.tp ty H x) (fun x H => ownTree ti0 E0.tp ty H x) (hL _) len 0 n [] cells k [] (by simp) (by omega) (by omega) hwl h0 hb rfl (fun X => rfl)
end Go.Proofs.YtejjggnchdldoaaDoor.Abs
set_option linter.unusedVariables false
set_option linter.unusedSimpArgs false
namespace Go.Proofs.YtejjggnchdldoaaDoor.Abs
open Go
section txt
theorem txt_fill (v : AV) (h : cellsA v = some [v]) : fillA [(.sc (.int .u8 0))] [(0, 1, v)] = some [v] := by
 simp [fillA, h, splice]
theorem txt_bytes (H : Heap) (b : UInt8) : content (H ++ [⟨[.sc (.int .u8 b.toNat)], true, true⟩]) 1 (.sl H.length 0 1 1) = some [.sc (.int .u8 b.toNat)] := by
 simp only [content, if_true, rdCells, get_at H _ []]
 rfl
theorem digs_pos {k : Nat} (h : ¬ k = 0) (out : ByteArray) : digs k out = digs (k / 10) (⟨#[UInt8.ofNat (48 + k % 10)]⟩ ++ out) := by
 rw [digs, dif_neg h]
theorem txt_loop {n ty : Nat} (L : Nat → AV → AV → Heap → Option AV)
  (hL : ∀ m k s H, L (m + 1) k s H = pBin .gtr k (.sc (.int .i64 0)) fun t7 => pCond t7 (pBin .rem k (.sc (.int .i64 10)) fun t9 => pBin .add (.sc (.int .i64 48)) t9 fun t10 => pCvI .u8 t10 fun t11 =>
   (fillA [(.sc (.int .u8 0))] [(0, 1, t11)]).bind fun ct12 => pNewSl 1 1 ct12 true H fun t12 H => pCvBS t12 H fun t13 => pBin .add t13 s fun t15 => pBin .quo k (.sc (.int .i64 10)) fun t17 => L m t17 t15 H)
   (pBin .add (.sc (.string ⟨#[109]⟩)) s fun t19 => ownTree ti0 E0.tp ty H t19)) :
  ∀ (b m k : Nat) (out : ByteArray) (H : Heap), k ≤ 4611686018427387904 → k < 10 ^ b → b < m → out.size + b ≤ 1000 → L m (.sc (.int .i64 k)) (.sc (.string out)) H = some (.sc (.string (⟨#[109]⟩ ++ digs k out)))
 | b, 0, k, out, H, hk0, h1, h2, h3 => by omega
 | b, m + 1, k, out, H, hk0, h1, h2, h3 => by
  rw [hL, gtr64, cond_b]
  by_cases hk : k = 0
  ·subst hk
   rw [if_neg (by simp)]
   have hs : (⟨#[109]⟩ : ByteArray).size + out.size ≤ 9223372036854775807 := by
    show 1 + out.size ≤ _
    omega
   show (binS .add ⟨#[109]⟩ out).bind _ = _
   simp only [binS, if_pos hs, Option.bind_some]
   rw [digs, dif_pos rfl]
   rfl
  ·rw [if_pos (by simp; omega)]
   have e9 : ∀ K : AV → Option AV, pBin .rem (.sc (.int .i64 (k : Int))) (.sc (.int .i64 10)) K = K (.sc (.int .i64 ((k % 10 : Nat) : Int))) := by
    intro K
    show K (.sc (.int .i64 ((k : Int).tmod 10))) = _
    rw [show ((k : Int).tmod 10) = ((k % 10 : Nat) : Int) from by
     rw [Int.tmod_eq_emod_of_nonneg (by omega)]; simp]
   have e10 : ∀ K : AV → Option AV, pBin .add (.sc (.int .i64 48)) (.sc (.int .i64 ((k % 10 : Nat) : Int))) K = K (.sc (.int .i64 ((48 + k % 10 : Nat) : Int))) := by
    intro K
    show K (.sc (.int .i64 (IntKind.i64.wrap (48 + ((k % 10 : Nat) : Int))))) = _
    rw [wrap64 _ (by omega) (by omega)]
    rfl
   have e11 : ∀ K : AV → Option AV, pCvI .u8 (.sc (.int .i64 ((48 + k % 10 : Nat) : Int))) K = K (.sc (.int .u8 ((UInt8.ofNat (48 + k % 10)).toNat : Int))) := by
    intro K
    show K (.sc (.int .u8 (IntKind.u8.wrap ((48 + k % 10 : Nat) : Int)))) = _
    have : (UInt8.ofNat (48 + k % 10)).toNat = 48 + k % 10 := by
     rw [UInt8.toNat_ofNat']
     omega
    rw [this]
    have hw : IntKind.u8.wrap ((48 + k % 10 : Nat) : Int) = ((48 + k % 10 : Nat) : Int) := by
     have h10 : k % 10 < 10 := Nat.mod_lt _ (by decide)
     unfold IntKind.wrap
     simp [IntKind.bits, IntKind.signed]
     omega
    rw [hw]
   have e17 : ∀ K : AV → Option AV, pBin .quo (.sc (.int .i64 (k : Int))) (.sc (.int .i64 10)) K = K (.sc (.int .i64 ((k / 10 : Nat) : Int))) := by
    intro K
    show K (.sc (.int .i64 (IntKind.i64.wrap ((k : Int).tdiv 10)))) = _
    rw [Int.tdiv_eq_ediv_of_nonneg (by omega), wrap64 _ (by omega) (by omega)]
    rfl
   rw [e9, e10, e11, txt_fill _ rfl]
   have hb : ((UInt8.ofNat (48 + k % 10)).toNat : Int).toNat = (UInt8.ofNat (48 + k % 10)).toNat := Int.toNat_natCast _
   have hbb : ([.sc (.int .u8 ((UInt8.ofNat (48 + k % 10)).toNat : Int))] : List AV).mapM byteOf = some [UInt8.ofNat (48 + k % 10)] := byteOf_bytes [UInt8.ofNat (48 + k % 10)]
   simp only [Option.bind_some, pNewSl, pCvBS, txt_bytes, hbb]
   have hs : (⟨#[UInt8.ofNat (48 + k % 10)]⟩ : ByteArray).size + out.size ≤ 9223372036854775807 := by
    show 1 + out.size ≤ _
    omega
   have e15 : ∀ K : AV → Option AV, pBin .add (.sc (.string ⟨[UInt8.ofNat (48 + k % 10)].toArray⟩)) (.sc (.string out)) K = K (.sc (.string (⟨#[UInt8.ofNat (48 + k % 10)]⟩ ++ out))) := by
    intro K
    show (binS .add ⟨#[UInt8.ofNat (48 + k % 10)]⟩ out).bind _ = _
    simp only [binS, if_pos hs, Option.bind_some]
   rw [e15, e17]
   cases b with
   | zero => simp at h1; omega
   | succ b =>
    have hk10 : k / 10 < 10 ^ b := by
     rw [Nat.pow_succ] at h1
     omega
    have hsz : (⟨#[UInt8.ofNat (48 + k % 10)]⟩ ++ out : ByteArray).size = 1 + out.size := by
     rw [ByteArray.size_append]
     rfl
    rw [txt_loop (n := n) (ty := ty) L hL b m (k / 10) _ _ (by omega) hk10 (by omega) (by rw [hsz]; omega)]
    rw [digs_pos hk out]
end txt
theorem txt_ok {n tS f : Nat} (hh : plainF f = false) (hn : 1048576 < n) (L : (AV → Heap → Option AV) → Nat → AV → AV → Heap → Option AV)
  (hL : ∀ kk m k s H, L kk (m + 1) k s H = pBin .gtr k (.sc (.int .i64 0)) fun t7 => pCond t7 (pBin .rem k (.sc (.int .i64 10)) fun t9 => pBin .add (.sc (.int .i64 48)) t9 fun t10 => pCvI .u8 t10 fun t11 =>
   (fillA [(.sc (.int .u8 0))] [(0, 1, t11)]).bind fun ct12 => pNewSl 1 1 ct12 true H fun t12 H => pCvBS t12 H fun t13 => pBin .add t13 s fun t15 => pBin .quo k (.sc (.int .i64 10)) fun t17 => L kk m t17 t15 H)
   (pBin .add (.sc (.string ⟨#[109]⟩)) s fun t19 => kk t19 H))
  (hF : ∀ a H kk, evalFn E0 (n + 1) AV f [a] H kk = pBin .leq a (.sc (.int .i64 0)) fun t5 => pCond t5 (kk (.sc (.string ⟨#[109, 48]⟩)) H) (L kk n a (.sc (.string ⟨#[]⟩)) H)) : TxtOk (n + 1) tS f := by
 refine ⟨hh, fun k h0 h1 => ?_⟩
 rw [tree_def, hF, leq64, cond_b]
 by_cases hk : k ≤ 0
 ·rw [if_pos (by simpa using hk), own_v, mTxt, if_pos hk]
  rfl
 ·rw [if_neg (by simpa using hk)]
  obtain ⟨m, rfl⟩ : ∃ m : Nat, k = m := ⟨k.toNat, by omega⟩
  have := txt_loop (n := n) (ty := tS) (L fun x H => ownTree ti0 E0.tp tS H x) (hL _) 19 n m ⟨#[]⟩ [] (by omega) (by omega) (by omega) (by decide)
  rw [this, mTxt, if_neg hk]
  rfl
inductive FV where
 | skip
 | sub (fs : List MF) (path : List Nat) (g : FuncId)
 | agg (l : List MF) (path : List Nat) (w : Nat) (g : FuncId)
def flatV : List FV → List MF
 | [] => []
 | .skip :: r => .skip :: flatV r
 | .sub fs _ _ :: r => .sub fs :: flatV r
 | .agg l _ _ _ :: r => l ++ flatV r
def MarkV (n g : Nat) (cty : List Nat) (fs : List MF) : Prop := E0.hm g = true ∧ E0.ext g = none ∧ ∀ (cs : List AV) (k : Int) (β : Type) (A C : Heap) (K : AV → Heap → Option β) (r : Option β), wfL fs cs → 0 ≤ k → k + cntL fs cs ≤ 4611686018427387904 →
 (∀ X, K (.sc (.int .i64 (mkL fs k cs).2)) (A ++ ((instL ti0 E0.tp A.length cty (mkL fs k cs).1).2 ++ (C ++ X))) = r) → evalFn E0 n β g [.agg (instL ti0 E0.tp A.length cty cs).1, .sc (.int .i64 k)] (A ++ ((instL ti0 E0.tp A.length cty cs).2 ++ C)) K = r
def HeldV (n g : Nat) (fs : List MF) : Prop := plainF g = false ∧ ∀ (ty : Nat) (cs : List AV) (k : Int), wfL fs cs → 0 ≤ k → k + cntL fs cs ≤ 4611686018427387904 → tree E0 n ty g [.agg (mkL fs k cs).1, .sc (.int .i64 k)] = some (.sc (.int .i64 (mkL fs k cs).2))
def isV : MF → Bool
 | .skip => true
 | .sub _ => true
 | _ => false
def FvM (n : Nat) : Nat → List FV → List Nat → Prop
 | _, [], [] => True
 | off, .skip :: r, _ :: ts => FvM n (off + 1) r ts
 | off, .sub fs path g :: r, t :: ts => path.sum = off ∧ MarkOk n g t fs ∧ FvM n (off + 1) r ts
 | off, .agg l path w g :: r, ts => path.sum = off ∧ l.length = w ∧ 0 < w ∧ l.all isV = true ∧ MarkV n g (ts.take w) l ∧ w ≤ ts.length ∧ FvM n (off + w) r (ts.drop w)
 | _, _, _ => False
def FvH (n : Nat) : Nat → List FV → Prop
 | _, [] => True
 | off, .skip :: r => FvH n (off + 1) r
 | off, .sub fs path g :: r => path.sum = off ∧ HeldOk n g fs ∧ FvH n (off + 1) r
 | off, .agg l path w g :: r => path.sum = off ∧ l.length = w ∧ 0 < w ∧ HeldV n g l ∧ FvH n (off + w) r
section fns
variable {β : Type}
def bodyV (p : Pr β) (tI : Nat) (x : AV) : List FV → AV → Heap → (AV → Heap → Option β) → Option β
 | [], k, H, K => K k H
 | .skip :: r, k, H, K => bodyV p tI x r k H K
 | .sub _ path g :: r, k, H, K => fadrs p path x fun t => p.load false 1 t H fun v => p.call tI (.fn g [] []) [v, k] H fun k H => bodyV p tI x r k H K
 | .agg _ path w g :: r, k, H, K => fadrs p path x fun t => p.load true w t H fun v => p.call tI (.fn g [] []) [v, k] H fun k H => bodyV p tI x r k H K
def bodyHV (p : Pr β) (tI : Nat) (x : AV) (F : Heap → Option β) : List FV → AV → Heap → (AV → Heap → Option β) → Option β
 | [], k, H, K => K k H
 | .skip :: r, k, H, K => bodyHV p tI x F r k H K
 | .sub _ path g :: r, k, H, K => fadrs p path x fun t => p.load false 1 t H fun v => p.call tI (.fn g [] []) [v, k] H fun k H => p.bin .lss k (.sc (.int .i64 0)) fun b => p.cond b (F H) (bodyHV p tI x F r k H K)
 | .agg _ path w g :: r, k, H, K => fadrs p path x fun t => p.load true w t H fun v => p.call tI (.fn g [] []) [v, k] H fun k H => p.bin .lss k (.sc (.int .i64 0)) fun b => p.cond b (F H) (bodyHV p tI x F r k H K)
variable {n : Nat} {res : Option β}
theorem mk_ro_same {t g : Nat} {n : Nat} {fs : List MF} (h : MarkOk n g t fs) (k : Int) (m : Nat) (cells : List AV) (M : Nat) : (instT ti0 E0.tp M t (mkF (.sub fs) k (.ro m cells)).1).1 = (instT ti0 E0.tp M t (.ro m cells)).1 := by
 obtain ⟨_, _, ⟨j1, j2, hj1, hj2⟩, _⟩ := h
 rw [inst_SB hj1 hj2]
 show (instT ti0 E0.tp M t (.ro m _)).1 = _
 rw [inst_SB hj1 hj2]
theorem mkL_same {ti : Nat → Option TI} {tp : Nat → Option (List Nat)} : ∀ (cs : List AV) (fs : List MF) (k : Int) (N : Nat) (ts : List Nat), fs.all isV = true → wfL fs cs → (instL ti tp N ts (mkL fs k cs).1).1 = (instL ti tp N ts cs).1
 | [], fs, k, N, ts, _, _ => by simp [mkL]
 | c :: cs, [], k, N, ts, _, hw => absurd rfl hw.1
 | c :: cs, f :: fs, k, N, ts, hv, hw => by
  obtain ⟨h1, h2⟩ := wfL_cons.1 hw
  rw [List.all_cons, Bool.and_eq_true] at hv
  have ih := mkL_same (ti := ti) (tp := tp) cs fs (mkF f k c).2 (N + nbT c) ts.tail hv.2 h2
  have hn := mkF_nb c f k
  have e : (instT ti tp N (ts.headD 0) (mkF f k c).1).1 = (instT ti tp N (ts.headD 0) c).1 := by
   cases c with
   | sc v => cases f <;> first | rfl | (exfalso; simpa [isV] using hv.1)
   | ro m cells => cases f <;> first | rfl | exact h1.elim
   | _ => exact h1.elim
  show (instT ti tp N (ts.headD 0) (mkF f k c).1).1 :: (instL ti tp (N + (instT ti tp N (ts.headD 0) (mkF f k c).1).2.length) ts.tail (mkL fs (mkF f k c).2 cs).1).1 = _ :: (instL ti tp (N + (instT ti tp N (ts.headD 0) c).2.length) ts.tail cs).1
  rw [inst_nb, inst_nb, e, hn, ih]
theorem body_v {tI idx : Nat} {ys : List AV} : ∀ (todo : List FV) (off : Nat) (Q R : List AV) (TP tR : List Nat) (k : Int) (A D : Heap) (K : AV → Heap → Option β),
  FvM n off todo tR → TP.length = Q.length → Q.length = off → wfL (flatV todo) R → 0 ≤ k → k + cntL (flatV todo) R ≤ 4611686018427387904 →
  (instL ti0 E0.tp A.length (TP ++ tR) (Q ++ R)).1 = ys → D[idx]? = some ⟨ys, true, true⟩ →
  (∀ X, K (.sc (.int .i64 (mkL (flatV todo) k R).2)) (A ++ ((instL ti0 E0.tp A.length (TP ++ tR) (Q ++ (mkL (flatV todo) k R).1)).2 ++ (D ++ X))) = res) →
  bodyV (PR n β) tI (.ptr (A.length + nbL (Q ++ R) + idx) 0) todo (.sc (.int .i64 k)) (A ++ ((instL ti0 E0.tp A.length (TP ++ tR) (Q ++ R)).2 ++ D)) K = res
 | [], off, Q, R, TP, tR, k, A, D, K, hf, hT, hq, hw, h0, h1, hy, hD, h => by
  cases R with
  | nil =>
   have := h []
   rw [List.append_nil D] at this
   exact this
  | cons c R => exact absurd rfl hw.1
 | .skip :: todo, off, Q, R, TP, tR, k, A, D, K, hf, hT, hq, hw, h0, h1, hy, hD, h => by
  cases R with
  | nil => exact absurd (show MF.skip :: flatV todo = [] from hw) (by simp)
  | cons c R =>
  cases tR with
  | nil => exact hf.elim
  | cons t tR =>
  obtain ⟨hwc, hwR⟩ := wfL_cons.1 (show wfL (MF.skip :: flatV todo) (c :: R) from hw)
  obtain ⟨v, rfl⟩ : ∃ v, c = .sc v := by
   cases c <;> first | exact ⟨_, rfl⟩ | exact hwc.elim
  have e1 : Q ++ .sc v :: R = (Q ++ [.sc v]) ++ R := by simp
  have e2 : TP ++ t :: tR = (TP ++ [t]) ++ tR := by simp
  have h1 : k + (0 + cntL (flatV todo) R : Nat) ≤ 4611686018427387904 := h1
  rw [e1, e2] at hy ⊢
  refine body_v todo (off + 1) (Q ++ [.sc v]) R (TP ++ [t]) tR k A D K hf (by simp [hT]) (by simp [hq]) hwR h0 (by omega) hy hD fun X => ?_
  have := h X
  rw [e2] at this
  simp only [List.append_assoc] at this ⊢
  exact this
 | .sub fs path g :: todo, off, Q, R, TP, tR, k, A, D, K, hf, hT, hq, hw, h0, h1, hy, hD, h => by
  cases R with
  | nil => exact absurd (show MF.sub fs :: flatV todo = [] from hw) (by simp)
  | cons c R =>
  cases tR with
  | nil => exact hf.elim
  | cons t tR =>
  obtain ⟨hpath, hmk, hrest⟩ := hf
  obtain ⟨hwc, hwR⟩ := wfL_cons.1 (show wfL (MF.sub fs :: flatV todo) (c :: R) from hw)
  obtain ⟨m, cells, rfl⟩ : ∃ m cells, c = .ro m cells := by
   cases c with
   | ro m cells => exact ⟨m, cells, rfl⟩
   | sc v => exact hwc.elim
   | _ => exact hwc.elim
  have h1 : k + (cntF (.sub fs) (.ro m cells) + cntL (flatV todo) R : Nat) ≤ 4611686018427387904 := h1
  have hk' := mkF_cnt (.ro m cells) (.sub fs) k
  have hn' := mkF_nb (.ro m cells) (.sub fs) k
  have hs' := mk_ro_same hmk k m cells
  have hmk2 := hmk.2.2.2 m cells k hwc h0 (by omega)
  have hl : (instL ti0 E0.tp A.length TP Q).1.length = Q.length := instL_len _ _ _
  have hsplit := fun (x : AV) => inst_mid (ti := ti0) (tp := E0.tp) TP tR t Q R x A.length hT
  rw [hsplit] at hy
  have hys : ys.drop off = (instT ti0 E0.tp (A.length + nbL Q) t (.ro m cells)).1 :: (instL ti0 E0.tp (A.length + nbL Q + nbT (.ro m cells)) tR R).1 := by
   rw [← hy, ← hq, ← hl, List.drop_append_of_le_length (Nat.le_refl _), List.drop_length, List.nil_append]
  have hlen : (instL ti0 E0.tp A.length (TP ++ t :: tR) (Q ++ .ro m cells :: R)).2.length = nbL (Q ++ .ro m cells :: R) := instL_nb _ _ _
  show (fadrs (PR n β) path (.ptr (A.length + nbL (Q ++ .ro m cells :: R) + idx) 0) fun t => pLoad false 1 t _ fun v => (PR n β).call tI (.fn g [] []) [v, .sc (.int .i64 k)] _ fun k H => bodyV (PR n β) tI _ todo k H K) = res
  rw [fadrs_ptr, hpath, Nat.zero_add]
  have hget : (A ++ ((instL ti0 E0.tp A.length (TP ++ t :: tR) (Q ++ .ro m cells :: R)).2 ++ D))[A.length + nbL (Q ++ .ro m cells :: R) + idx]? = some ⟨ys, true, true⟩ := by
   rw [List.getElem?_append_right (by omega), List.getElem?_append_right (by omega), hlen]
   rw [show A.length + nbL (Q ++ .ro m cells :: R) + idx - A.length - nbL (Q ++ .ro m cells :: R) = idx by omega]
   exact hD
  have hld : rdCells (A ++ ((instL ti0 E0.tp A.length (TP ++ t :: tR) (Q ++ .ro m cells :: R)).2 ++ D)) (A.length + nbL (Q ++ .ro m cells :: R) + idx) off 1 = some [(instT ti0 E0.tp (A.length + nbL Q) t (.ro m cells)).1] := by
   have hle : off + 1 ≤ ys.length := by
    have := congrArg List.length hys
    rw [List.length_drop, List.length_cons] at this
    omega
   simp only [rdCells, hget, if_true, hle, hys]
   rfl
  rw [ldF hld, PR_hm hmk.1 hmk.2.1]
  have e : ∀ (x : AV) (B : Heap), A ++ ((instL ti0 E0.tp A.length (TP ++ t :: tR) (Q ++ x :: R)).2 ++ B) = (A ++ (instL ti0 E0.tp A.length TP Q).2) ++ ((instT ti0 E0.tp (A.length + nbL Q) t x).2 ++ ((instL ti0 E0.tp (A.length + nbL Q + nbT x) tR R).2 ++ B)) := by
   intro x B
   simp only [hsplit, List.append_assoc]
  have hN : (A ++ (instL ti0 E0.tp A.length TP Q).2).length = A.length + nbL Q := by rw [List.length_append, instL_nb]
  rw [e]
  have key := hmk2 β (A ++ (instL ti0 E0.tp A.length TP Q).2) ((instL ti0 E0.tp (A.length + nbL Q + nbT (.ro m cells)) tR R).2 ++ D) (fun k H => bodyV (PR n β) tI (.ptr (A.length + nbL (Q ++ .ro m cells :: R) + idx) 0) todo k H K) res
  rw [hN] at key
  refine key fun X => ?_
  generalize hc' : (mkF (.sub fs) k (.ro m cells)).1 = c' at hn' hs' h ⊢
  have e1 : ∀ (Y : List AV), Q ++ c' :: Y = (Q ++ [c']) ++ Y := fun Y => by simp
  have e2 : TP ++ t :: tR = (TP ++ [t]) ++ tR := by simp
  have e3 : nbL (Q ++ .ro m cells :: R) = nbL ((Q ++ [c']) ++ R) := by
   rw [nbL_append, nbL_append, nbL_append]
   show nbL Q + (nbT (.ro m cells) + nbL R) = nbL Q + (nbT c' + 0) + nbL R
   rw [hn']
   omega
  have e4 := e c' (D ++ X)
  rw [hn'] at e4
  rw [List.append_assoc (instL ti0 E0.tp (A.length + nbL Q + nbT (.ro m cells)) tR R).2 D X, ← e4, e3, e2, e1 R]
  refine body_v (tI := tI) (idx := idx) (ys := ys) todo (off + 1) (Q ++ [c']) R (TP ++ [t]) tR (mkF (.sub fs) k (.ro m cells)).2 A (D ++ X) K hrest (by simp [hT]) (by simp [hq]) hwR (by omega) (by omega) ?_ ?_ fun Y => ?_
  ·rw [← e1, ← e2, hsplit, hs', hn', hy]
  ·rw [List.getElem?_append_left (List.getElem?_eq_some_iff.1 hD).1]
   exact hD
  ·have := h (X ++ Y)
   have hm : mkL (flatV (.sub fs path g :: todo)) k (.ro m cells :: R) = (c' :: (mkL (flatV todo) (mkF (.sub fs) k (.ro m cells)).2 R).1, (mkL (flatV todo) (mkF (.sub fs) k (.ro m cells)).2 R).2) := by rw [← hc']; rfl
   rw [hm, e2, e1] at this
   rw [List.append_assoc D X Y]
   exact this
 | .agg l path w g :: todo, off, Q, R, TP, tR, k, A, D, K, hf, hT, hq, hw, h0, h1, hy, hD, h => by
  obtain ⟨hpath, hlw, hw0, hlv, hmk, hwt, hrest⟩ := hf
  have hRlen : w ≤ R.length := by
   have := wfL_len (show wfL (l ++ flatV todo) R from hw)
   rw [List.length_append] at this
   omega
  obtain ⟨c, R, rfl, hcl⟩ : ∃ c R', R = c ++ R' ∧ c.length = w := ⟨R.take w, R.drop w, (List.take_append_drop w R).symm, by rw [List.length_take]; omega⟩
  obtain ⟨t, tR, rfl, htl⟩ : ∃ c R', tR = c ++ R' ∧ c.length = w := ⟨tR.take w, tR.drop w, (List.take_append_drop w tR).symm, by rw [List.length_take]; omega⟩
  rw [List.take_left' htl] at hmk
  rw [List.drop_left' htl] at hrest
  have hlc : l.length = c.length := by rw [hlw, hcl]
  obtain ⟨hwc, hwR⟩ := (wfL_append hlc).1 (show wfL (l ++ flatV todo) (c ++ R) from hw)
  have h1 : k + (cntL l c + cntL (flatV todo) R : Nat) ≤ 4611686018427387904 := by
   have := cntL_append l (flatV todo) c R hlc
   rw [← this]
   exact h1
  have hk' := mkL_cnt c l k
  have hn' := mkL_nb c l k
  have hl' := mkL_len c l k
  have hs' := fun N => mkL_same (ti := ti0) (tp := E0.tp) c l k N t hlv hwc
  have hl : (instL ti0 E0.tp A.length TP Q).1.length = Q.length := instL_len _ _ _
  have hsplit : ∀ x : List AV, x.length = c.length → instL ti0 E0.tp A.length (TP ++ (t ++ tR)) (Q ++ (x ++ R)) = ((instL ti0 E0.tp A.length TP Q).1 ++ ((instL ti0 E0.tp (A.length + nbL Q) t x).1 ++ (instL ti0 E0.tp (A.length + nbL Q + nbL x) tR R).1), (instL ti0 E0.tp A.length TP Q).2 ++ ((instL ti0 E0.tp (A.length + nbL Q) t x).2 ++ (instL ti0 E0.tp (A.length + nbL Q + nbL x) tR R).2)) := by
   intro x hx
   rw [instL_append TP Q (t ++ tR) (x ++ R) _ hT, instL_nb, instL_append t x tR R _ (by rw [htl, hx, hcl]), instL_nb]
  rw [hsplit c rfl] at hy
  have hil : (instL ti0 E0.tp (A.length + nbL Q) t c).1.length = w := by rw [instL_len, hcl]
  have hys : ys.drop off = (instL ti0 E0.tp (A.length + nbL Q) t c).1 ++ (instL ti0 E0.tp (A.length + nbL Q + nbL c) tR R).1 := by
   rw [← hy, ← hq, ← hl, List.drop_append_of_le_length (Nat.le_refl _), List.drop_length, List.nil_append]
  have hlen : (instL ti0 E0.tp A.length (TP ++ (t ++ tR)) (Q ++ (c ++ R))).2.length = nbL (Q ++ (c ++ R)) := instL_nb _ _ _
  show (fadrs (PR n β) path (.ptr (A.length + nbL (Q ++ (c ++ R)) + idx) 0) fun t => pLoad true w t _ fun v => (PR n β).call tI (.fn g [] []) [v, .sc (.int .i64 k)] _ fun k H => bodyV (PR n β) tI _ todo k H K) = res
  rw [fadrs_ptr, hpath, Nat.zero_add]
  have hget : (A ++ ((instL ti0 E0.tp A.length (TP ++ (t ++ tR)) (Q ++ (c ++ R))).2 ++ D))[A.length + nbL (Q ++ (c ++ R)) + idx]? = some ⟨ys, true, true⟩ := by
   rw [List.getElem?_append_right (by omega), List.getElem?_append_right (by omega), hlen]
   rw [show A.length + nbL (Q ++ (c ++ R)) + idx - A.length - nbL (Q ++ (c ++ R)) = idx by omega]
   exact hD
  have hld : rdCells (A ++ ((instL ti0 E0.tp A.length (TP ++ (t ++ tR)) (Q ++ (c ++ R))).2 ++ D)) (A.length + nbL (Q ++ (c ++ R)) + idx) off w = some (instL ti0 E0.tp (A.length + nbL Q) t c).1 := by
   have hle : off + w ≤ ys.length := by
    have := congrArg List.length hys
    rw [List.length_drop, List.length_append, hil] at this
    omega
   simp only [rdCells, hget, if_true, hle, hys]
   rw [List.take_left' hil]
  rw [ldT hld, PR_hm hmk.1 hmk.2.1]
  have e : ∀ (x : List AV) (B : Heap), x.length = c.length → A ++ ((instL ti0 E0.tp A.length (TP ++ (t ++ tR)) (Q ++ (x ++ R))).2 ++ B) = (A ++ (instL ti0 E0.tp A.length TP Q).2) ++ ((instL ti0 E0.tp (A.length + nbL Q) t x).2 ++ ((instL ti0 E0.tp (A.length + nbL Q + nbL x) tR R).2 ++ B)) := by
   intro x B hx
   simp only [hsplit x hx, List.append_assoc]
  have hN : (A ++ (instL ti0 E0.tp A.length TP Q).2).length = A.length + nbL Q := by rw [List.length_append, instL_nb]
  rw [e c _ rfl]
  have key := hmk.2.2 c k β (A ++ (instL ti0 E0.tp A.length TP Q).2) ((instL ti0 E0.tp (A.length + nbL Q + nbL c) tR R).2 ++ D) (fun k H => bodyV (PR n β) tI (.ptr (A.length + nbL (Q ++ (c ++ R)) + idx) 0) todo k H K) res hwc h0 (by omega)
  rw [hN] at key
  refine key fun X => ?_
  have hm : mkL (flatV (.agg l path w g :: todo)) k (c ++ R) = ((mkL l k c).1 ++ (mkL (flatV todo) (mkL l k c).2 R).1, (mkL (flatV todo) (mkL l k c).2 R).2) := mkL_append l (flatV todo) k c R hlc
  generalize hc' : (mkL l k c).1 = c' at hn' hl' hs' hm ⊢
  have e1 : ∀ (Y : List AV), Q ++ (c' ++ Y) = (Q ++ c') ++ Y := fun Y => by simp
  have e2 : TP ++ (t ++ tR) = (TP ++ t) ++ tR := by simp
  have e3 : nbL (Q ++ (c ++ R)) = nbL ((Q ++ c') ++ R) := by
   rw [nbL_append, nbL_append, nbL_append, nbL_append, hn']
   omega
  have e4 := e c' (D ++ X) hl'
  rw [hn'] at e4
  rw [List.append_assoc (instL ti0 E0.tp (A.length + nbL Q + nbL c) tR R).2 D X, ← e4, e3, e2, e1 R]
  refine body_v (tI := tI) (idx := idx) (ys := ys) todo (off + w) (Q ++ c') R (TP ++ t) tR (mkL l k c).2 A (D ++ X) K hrest (by simp [hT, htl, hl', hcl]) (by simp [hq, hl', hcl]) hwR (by omega) (by omega) ?_ ?_ fun Y => ?_
  ·rw [← e1, ← e2, hsplit _ hl', hs', hn', hy]
  ·rw [List.getElem?_append_left (List.getElem?_eq_some_iff.1 hD).1]
   exact hD
  ·have := h (X ++ Y)
   rw [hm, e2, e1] at this
   rw [List.append_assoc D X Y]
   exact this
theorem markv_ok {tI f : Nat} {cty : List Nat} {fvs : List FV} (hh : E0.hm f = true) (hx : E0.ext f = none) (hf : FvM n 0 fvs cty) (hv : (flatV fvs).all isV = true) (hlf : ∀ (cs : List AV) (N : Nat), wfL (flatV fvs) cs → (instL ti0 E0.tp N cty cs).1.all isLeaf = true)
  (hF : ∀ β a b H kk, evalFn E0 (n + 1) β f [a, b] H kk = pBox a H fun x H => bodyV (PR n β) tI x fvs b H kk) : MarkV (n + 1) f cty (flatV fvs) := by
 refine ⟨hh, hx, fun cs k β A C K r hw h0 hb h => ?_⟩
 rw [hF]
 have hc : cellsA (.agg (instL ti0 E0.tp A.length cty cs).1) = some (instL ti0 E0.tp A.length cty cs).1 := by
  show (if _ then _ else none) = _
  rw [if_pos (hlf cs _ hw)]
 simp only [pBox, hc, Option.bind_some, pNew]
 have hlen : (instL ti0 E0.tp A.length cty cs).2.length = nbL cs := instL_nb _ _ _
 have e1 : (A ++ ((instL ti0 E0.tp A.length cty cs).2 ++ C)).length = A.length + nbL ([] ++ cs) + C.length := by
  simp only [List.length_append, hlen, List.nil_append]
  omega
 rw [e1]
 have e2 : A ++ ((instL ti0 E0.tp A.length cty cs).2 ++ C) ++ [⟨(instL ti0 E0.tp A.length cty cs).1, true, true⟩] = A ++ ((instL ti0 E0.tp A.length ([] ++ cty) ([] ++ cs)).2 ++ (C ++ [⟨(instL ti0 E0.tp A.length cty cs).1, true, true⟩])) := by simp
 rw [e2]
 refine body_v fvs 0 [] cs [] cty k A _ K hf rfl rfl hw h0 hb rfl (by rw [List.getElem?_append_right (Nat.le_refl _), Nat.sub_self]; rfl) fun X => ?_
 have := h ([⟨(instL ti0 E0.tp A.length cty cs).1, true, true⟩] ++ X)
 simp only [List.append_assoc, List.nil_append] at this ⊢
 exact this
theorem body_hv {tI : Nat} {F : Heap → Option β} (cells : List AV) (hfl : cells.all isFl = true) : ∀ (todo : List FV) (off : Nat) (Q R : List AV) (k : Int) (H : Heap) (K : AV → Heap → Option β),
  FvH n off todo → Q.length = off → wfL (flatV todo) R → 0 ≤ k → k + cntL (flatV todo) R ≤ 4611686018427387904 → cells = Q ++ (mkL (flatV todo) k R).1 → H[0]? = some ⟨cells, true, true⟩ →
  (∀ X, K (.sc (.int .i64 (mkL (flatV todo) k R).2)) (H ++ X) = res) →
  bodyHV (PR n β) tI (.ptr 0 0) F todo (.sc (.int .i64 k)) H K = res
 | [], off, Q, R, k, H, K, hf, hq, hw, h0, h1, hc, hH, h => by
  cases R with
  | nil =>
   have := h []
   rw [List.append_nil H] at this
   exact this
  | cons c R => exact absurd rfl hw.1
 | .skip :: todo, off, Q, R, k, H, K, hf, hq, hw, h0, h1, hc, hH, h => by
  cases R with
  | nil => exact absurd (show MF.skip :: flatV todo = [] from hw) (by simp)
  | cons c R =>
  obtain ⟨hwc, hwR⟩ := wfL_cons.1 (show wfL (MF.skip :: flatV todo) (c :: R) from hw)
  obtain ⟨v, rfl⟩ : ∃ v, c = .sc v := by
   cases c <;> first | exact ⟨_, rfl⟩ | exact hwc.elim
  have h1 : k + (0 + cntL (flatV todo) R : Nat) ≤ 4611686018427387904 := h1
  exact body_hv cells hfl todo (off + 1) (Q ++ [.sc v]) R k H K hf (by simp [hq]) hwR h0 (by omega) (by rw [List.append_assoc]; exact hc) hH h
 | .sub fs path g :: todo, off, Q, R, k, H, K, hf, hq, hw, h0, h1, hc, hH, h => by
  cases R with
  | nil => exact absurd (show MF.sub fs :: flatV todo = [] from hw) (by simp)
  | cons c R =>
  obtain ⟨hpath, hhe, hrest⟩ := hf
  obtain ⟨hwc, hwR⟩ := wfL_cons.1 (show wfL (MF.sub fs :: flatV todo) (c :: R) from hw)
  obtain ⟨m, cs, rfl⟩ : ∃ m cells, c = .ro m cells := by
   cases c with
   | ro m cells => exact ⟨m, cells, rfl⟩
   | sc v => exact hwc.elim
   | _ => exact hwc.elim
  have h1 : k + (cntF (.sub fs) (.ro m cs) + cntL (flatV todo) R : Nat) ≤ 4611686018427387904 := h1
  have hk' := mkF_cnt (.ro m cs) (.sub fs) k
  have hm : mkL (flatV (.sub fs path g :: todo)) k (.ro m cs :: R) = ((mkF (.sub fs) k (.ro m cs)).1 :: (mkL (flatV todo) (mkF (.sub fs) k (.ro m cs)).2 R).1, (mkL (flatV todo) (mkF (.sub fs) k (.ro m cs)).2 R).2) := rfl
  rw [hm] at hc h
  have hld : rdCells H 0 off 1 = some [(mkF (.sub fs) k (.ro m cs)).1] := by
   have hle : off + 1 ≤ cells.length := by
    rw [hc, List.length_append, List.length_cons]
    omega
   have hd : (cells.drop off).take 1 = [(mkF (.sub fs) k (.ro m cs)).1] := by
    rw [hc, ← hq, List.drop_append_of_le_length (Nat.le_refl _), List.drop_length]
    rfl
   simp only [rdCells, hH, if_true, hle, hd]
  show (fadrs (PR n β) path (.ptr 0 0) fun t => pLoad false 1 t H fun v => (PR n β).call tI (.fn g [] []) [v, .sc (.int .i64 k)] H fun k H => pBin .lss k (.sc (.int .i64 0)) fun b => pCond b (F H) (bodyHV (PR n β) tI _ F todo k H K)) = res
  rw [fadrs_ptr, hpath, Nat.zero_add, ldF hld, PR_call (vs := [(mkF (.sub fs) k (.ro m cs)).1, .sc (.int .i64 k)]) hhe.1 rfl (hhe.2 tI m cs k hwc h0 (by omega)), instT_sc, List.append_nil]
  simp only
  rw [lss64, cond_b, if_neg (by simp; omega)]
  exact body_hv cells hfl todo (off + 1) (Q ++ [(mkF (.sub fs) k (.ro m cs)).1]) R _ H K hrest (by simp [hq]) hwR (by omega) (by omega) (by rw [List.append_assoc]; exact hc) hH h
 | .agg l path w g :: todo, off, Q, R, k, H, K, hf, hq, hw, h0, h1, hc, hH, h => by
  obtain ⟨hpath, hlw, hw0, hhe, hrest⟩ := hf
  have hRlen : w ≤ R.length := by
   have := wfL_len (show wfL (l ++ flatV todo) R from hw)
   rw [List.length_append] at this
   omega
  obtain ⟨c, R, rfl, hcl⟩ : ∃ c R', R = c ++ R' ∧ c.length = w := ⟨R.take w, R.drop w, (List.take_append_drop w R).symm, by rw [List.length_take]; omega⟩
  have hlc : l.length = c.length := by rw [hlw, hcl]
  obtain ⟨hwc, hwR⟩ := (wfL_append hlc).1 (show wfL (l ++ flatV todo) (c ++ R) from hw)
  have h1 : k + (cntL l c + cntL (flatV todo) R : Nat) ≤ 4611686018427387904 := by
   have := cntL_append l (flatV todo) c R hlc
   rw [← this]
   exact h1
  have hk' := mkL_cnt c l k
  have hl' := mkL_len c l k
  have hm : mkL (flatV (.agg l path w g :: todo)) k (c ++ R) = ((mkL l k c).1 ++ (mkL (flatV todo) (mkL l k c).2 R).1, (mkL (flatV todo) (mkL l k c).2 R).2) := mkL_append l (flatV todo) k c R hlc
  rw [hm] at hc h
  have hd : (cells.drop off).take w = (mkL l k c).1 := by
   rw [hc, ← hq, List.drop_append_of_le_length (Nat.le_refl _), List.drop_length, List.nil_append, List.take_left' (by rw [hl', hcl])]
  have hld : rdCells H 0 off w = some (mkL l k c).1 := by
   have hle : off + w ≤ cells.length := by
    rw [hc, List.length_append, List.length_append, hl', hcl]
    omega
   simp only [rdCells, hH, if_true, hle, hd]
  have hfc : (mkL l k c).1.all isFl = true := by
   rw [hc, List.all_append, List.all_append, Bool.and_eq_true, Bool.and_eq_true] at hfl
   exact hfl.2.1
  show (fadrs (PR n β) path (.ptr 0 0) fun t => pLoad true w t H fun v => (PR n β).call tI (.fn g [] []) [v, .sc (.int .i64 k)] H fun k H => pBin .lss k (.sc (.int .i64 0)) fun b => pCond b (F H) (bodyHV (PR n β) tI _ F todo k H K)) = res
  rw [fadrs_ptr, hpath, Nat.zero_add, ldT hld, PR_call (vs := [.agg (mkL l k c).1, .sc (.int .i64 k)]) hhe.1 (vcons (Vw_agg _ hfc) (vcons (Vw_sc _ _) vnil)) (hhe.2 tI c k hwc h0 (by omega)), instT_sc, List.append_nil]
  simp only
  rw [lss64, cond_b, if_neg (by simp; omega)]
  exact body_hv cells hfl todo (off + w) (Q ++ (mkL l k c).1) R _ H K hrest (by simp [hq, hl', hcl]) hwR (by omega) (by omega) (by rw [List.append_assoc]; exact hc) hH h
theorem mkL_fl : ∀ (cs : List AV) (fs : List MF) (k : Int), wfL fs cs → fs.all isV = true → (mkL fs k cs).1.all isFl = true
 | [], fs, k, _, _ => by simp [mkL]
 | c :: cs, [], k, hw, _ => absurd rfl hw.1
 | c :: cs, f :: fs, k, hw, hv => by
  obtain ⟨h1, h2⟩ := wfL_cons.1 hw
  rw [List.all_cons, Bool.and_eq_true] at hv
  rw [mkL_cons, List.all_cons, mkL_fl cs fs _ h2 hv.2, Bool.and_true]
  cases c with
  | sc v => cases f <;> first | exact h1 | (exfalso; simpa [isV] using hv.1) | exact h1.elim
  | ro m cells => cases f <;> first | rfl | exact h1.elim
  | _ => exact h1.elim
theorem heldv_ok {tI f : Nat} {fvs : List FV} (hh : plainF f = false) (hf : FvH n 0 fvs) (hv : (flatV fvs).all isV = true)
  (hF : ∀ a b H kk, evalFn E0 (n + 1) AV f [a, b] H kk = pBox a H fun x H => bodyHV (PR n AV) tI x (fun H => kk (.sc (.int .i64 (-1))) H) fvs b H kk) : HeldV (n + 1) f (flatV fvs) := by
 refine ⟨hh, fun ty cs k hw h0 hb => ?_⟩
 have hfl := mkL_fl cs (flatV fvs) k hw hv
 rw [tree_def, hF, box_fl _ _ _ hfl]
 exact body_hv (mkL (flatV fvs) k cs).1 hfl fvs 0 [] cs k _ _ hf rfl hw h0 hb rfl rfl (fun X => rfl)
end fns
end Go.Proofs.YtejjggnchdldoaaDoor.Abs
set_option linter.unusedVariables false
set_option linter.unusedSimpArgs false
namespace Go.Proofs.YtejjggnchdldoaaDoor.Abs
open Go
def AtT (H : Heap) (y : AV) (N ty : Nat) (t : AV) : Prop := y = (instT ti0 E0.tp N ty t).1 ∧ N + nbT t ≤ H.length ∧ Lies H N (instT ti0 E0.tp N ty t).2
def AtL (H : Heap) (ys : List AV) (N : Nat) (ts : List Nat) (cs : List AV) : Prop := ys = (instL ti0 E0.tp N ts cs).1 ∧ N + nbL cs ≤ H.length ∧ Lies H N (instL ti0 E0.tp N ts cs).2
def Kept (H H' : Heap) (N m : Nat) : Prop := H.length ≤ H'.length ∧ ∀ (i : Nat) b, H[i]? = some b → (i < N ∨ N + m ≤ i) → H'[i]? = some b
theorem Lies.grow {H : Heap} {N : Nat} {B : List Blk} (h : Lies H N B) (X : List Blk) : Lies (H ++ X) N B := fun j b hj => by
 have := h j b hj
 rw [List.getElem?_append_left (List.getElem?_eq_some_iff.1 this).1]
 exact this
theorem Lies.kept {H H' : Heap} {N M m : Nat} {B : List Blk} (h : Lies H N B) (k : Kept H H' M m) (hd : N + B.length ≤ M ∨ M + m ≤ N) : Lies H' N B := fun j b hj => by
 have hlt := (List.getElem?_eq_some_iff.1 hj).1
 exact k.2 _ b (h j b hj) (by omega)
theorem AtT.grow {H : Heap} {y : AV} {N ty : Nat} {t : AV} (h : AtT H y N ty t) (X : List Blk) : AtT (H ++ X) y N ty t := ⟨h.1, by rw [List.length_append]; have := h.2.1; omega, h.2.2.grow X⟩
theorem AtL.grow {H : Heap} {ys : List AV} {N : Nat} {ts : List Nat} {cs : List AV} (h : AtL H ys N ts cs) (X : List Blk) : AtL (H ++ X) ys N ts cs := ⟨h.1, by rw [List.length_append]; have := h.2.1; omega, h.2.2.grow X⟩
theorem AtT.kept {H H' : Heap} {y : AV} {N ty M m : Nat} {t : AV} (h : AtT H y N ty t) (k : Kept H H' M m) (hd : N + nbT t ≤ M ∨ M + m ≤ N) : AtT H' y N ty t := ⟨h.1, Nat.le_trans h.2.1 k.1, h.2.2.kept k (by rw [inst_nb]; exact hd)⟩
theorem AtL.kept {H H' : Heap} {ys : List AV} {N M m : Nat} {ts : List Nat} {cs : List AV} (h : AtL H ys N ts cs) (k : Kept H H' M m) (hd : N + nbL cs ≤ M ∨ M + m ≤ N) : AtL H' ys N ts cs := ⟨h.1, Nat.le_trans h.2.1 k.1, h.2.2.kept k (by rw [instL_nb]; exact hd)⟩
theorem blk_kept {H H' : Heap} {i M m : Nat} {b : Blk} (h : H[i]? = some b) (k : Kept H H' M m) (hd : i < M ∨ M + m ≤ i) : H'[i]? = some b := k.2 i b h hd
theorem AtL.cons {H : Heap} {ys : List AV} {N t : Nat} {ts : List Nat} {c : AV} {cs : List AV} (h : AtL H ys N (t :: ts) (c :: cs)) : ∃ y ys', ys = y :: ys' ∧ AtT H y N t c ∧ AtL H ys' (N + nbT c) ts cs := by
 obtain ⟨h1, h2, h3⟩ := h
 have h2 : N + (nbT c + nbL cs) ≤ H.length := h2
 have e : instL ti0 E0.tp N (t :: ts) (c :: cs) = ((instT ti0 E0.tp N t c).1 :: (instL ti0 E0.tp (N + nbT c) ts cs).1, (instT ti0 E0.tp N t c).2 ++ (instL ti0 E0.tp (N + nbT c) ts cs).2) := by
  rw [instL, inst_nb]
  rfl
 rw [e] at h1 h3
 refine ⟨_, _, h1, ⟨rfl, by omega, h3.left⟩, ⟨rfl, by omega, ?_⟩⟩
 have := h3.right
 rwa [inst_nb] at this
theorem AtL.nil {H : Heap} {ys : List AV} {N : Nat} {ts : List Nat} (h : AtL H ys N ts []) : ys = [] := h.1
theorem AtT.sc {H : Heap} {y : AV} {N ty : Nat} {v : Value} (h : AtT H y N ty (.sc v)) : y = .sc v := h.1
theorem AtT.agg {H : Heap} {y : AV} {N ty : Nat} {cs : List AV} {cty : List Nat} (h : AtT H y N ty (.agg cs)) (hty : ∃ i, ti0 ty = some i ∧ i.cty = cty) : ∃ ys, y = .agg ys ∧ AtL H ys N cty cs := by
 obtain ⟨i, hi, rfl⟩ := hty
 obtain ⟨h1, h2, h3⟩ := h
 rw [instT_agg, hi, Option.getD_some] at h1 h3
 exact ⟨_, h1, rfl, h2, h3⟩
theorem AtT.vw {H : Heap} {y : AV} {N ty : Nat} {t : AV} (h : AtT H y N ty t) (hok : okW ti0 E0.tp 8 ty t) : Vw H y t := fun X => by
 rw [h.1]
 exact view_inst 8 ty t N (okW_okTr 8 ty t hok) (h.2.2.grow X)
theorem AtL.vw {H : Heap} {ys : List AV} {N : Nat} {ts : List Nat} {cs : List AV} (h : AtL H ys N ts cs) (hok : okLW (okW ti0 E0.tp 7) ts cs) : Vw H (.agg ys) (.agg cs) := fun X => by
 rw [h.1, viewV_agg, view_instL (fun ty t N => view_inst 7 ty t N) cs ts N (okLW_okL (okW_okTr 7) hok) (h.2.2.grow X)]
 rfl
theorem AtL.leaf {H : Heap} {ys : List AV} {N : Nat} {ts : List Nat} {cs : List AV} (h : AtL H ys N ts cs) (hf : cs.all isFl = true) : ys.all isLeaf = true := by
 rw [h.1]
 exact instL_leaf _ _ _ hf
theorem AtL.len {H : Heap} {ys : List AV} {N : Nat} {ts : List Nat} {cs : List AV} (h : AtL H ys N ts cs) : ys.length = cs.length := by rw [h.1, instL_len]
theorem okLW_mk {d : Nat} (hd : ∀ ty x f k, okW ti0 E0.tp d ty x → okW ti0 E0.tp d ty (mkF f k x).1) : ∀ (cs : List AV) (ts : List Nat) (fs : List MF) (k : Int), okLW (okW ti0 E0.tp d) ts cs → okLW (okW ti0 E0.tp d) ts (mkL fs k cs).1
 | [], ts, fs, k, h => by simpa [mkL] using h
 | c :: cs, [], fs, k, h => h.elim
 | c :: cs, t :: ts, fs, k, h => ⟨hd _ _ _ _ h.1, okLW_mk hd cs ts fs.tail _ h.2⟩
theorem okW_mk : ∀ (d ty : Nat) (x : AV) (f : MF) (k : Int), okW ti0 E0.tp d ty x → okW ti0 E0.tp d ty (mkF f k x).1
 | 0, _, _, _, _, h => h
 | d + 1, ty, x, f, k, h => by
  cases x with
  | sc v => cases f <;> trivial
  | ro n cells =>
   cases f with
   | sub fs =>
    obtain ⟨i, j, h1, h2, h3, h4⟩ := h
    exact ⟨i, j, h1, h2, by rw [mkL_len]; exact h3, okLW_mk (okW_mk d) _ _ _ _ h4⟩
   | _ => exact h
  | _ => exact h
theorem okLW_mk7 {cs : List AV} {ts : List Nat} (fs : List MF) (k : Int) (h : okLW (okW ti0 E0.tp 7) ts cs) : okLW (okW ti0 E0.tp 7) ts (mkL fs k cs).1 := okLW_mk (okW_mk 7) cs ts fs k h
section steps
variable {β : Type} {n : Nat} {H : Heap} {r : Option β}
theorem lm_tree {ty f : Nat} {args vs : List AV} {t : AV} {K : AV → Heap → Option β} (hh : plainF f = false) (hv : args.mapM (viewV H 8) = some vs) (ht : tree E0 n ty f vs = some t) (h : ∀ y X N, N = H.length → AtT (H ++ X) y N ty t → K y (H ++ X) = r) : (PR n β).call ty (.fn f [] []) args H (fun x H => K x H) = r := by
 rw [PR_call hh hv ht]
 exact h _ _ _ rfl ⟨rfl, by rw [List.length_append, inst_nb]; exact Nat.le_refl _, Lies_end _ _⟩
theorem lm_tup {ty f : Nat} {args vs cs : List AV} {ts : List Nat} {K : AV → Heap → Option β} (hh : plainF f = false) (hv : args.mapM (viewV H 8) = some vs) (ht : tree E0 n ty f vs = some (.tup cs)) (hts : E0.tp ty = some ts) (h : ∀ ys X N, N = H.length → AtL (H ++ X) ys N ts cs → K (.tup ys) (H ++ X) = r) : (PR n β).call ty (.fn f [] []) args H (fun x H => K x H) = r := by
 rw [PR_call hh hv ht, instT_tup, hts, Option.getD_some]
 exact h _ _ _ rfl ⟨rfl, by rw [List.length_append, instL_nb]; exact Nat.le_refl _, Lies_end _ _⟩
theorem lm_agg {ty f : Nat} {args vs cs : List AV} {cty : List Nat} {K : AV → Heap → Option β} (hh : plainF f = false) (hv : args.mapM (viewV H 8) = some vs) (ht : tree E0 n ty f vs = some (.agg cs)) (hty : ∃ i, ti0 ty = some i ∧ i.cty = cty) (h : ∀ ys X N, N = H.length → AtL (H ++ X) ys N cty cs → K (.agg ys) (H ++ X) = r) : (PR n β).call ty (.fn f [] []) args H (fun x H => K x H) = r := by
 obtain ⟨i, hi, rfl⟩ := hty
 rw [PR_call hh hv ht, instT_agg, hi, Option.getD_some]
 exact h _ _ _ rfl ⟨rfl, by rw [List.length_append, instL_nb]; exact Nat.le_refl _, Lies_end _ _⟩
theorem lm_put {w : Nat} {z ys : List AV} {K : AV → Heap → Option β} (hz : z.length = w) (hy : ys.length = w) (hl : ys.all isLeaf = true) (h : ∀ i, i = H.length → (H ++ [⟨ys, true, true⟩])[i]? = some ⟨ys, true, true⟩ → K (.ptr i 0) (H ++ [⟨ys, true, true⟩]) = r) :
  pNew z H (fun t H => pStore w t (.agg ys) H fun H => K t H) = r := by
 have hg : (H ++ [(⟨z, true, true⟩ : Blk)])[H.length]? = some ⟨z, true, true⟩ := get_at H _ []
 have hc : cellsA (.agg ys) = some ys := by
  show (if ys.all isLeaf then some ys else none) = _
  rw [if_pos hl]
 show pStore w (.ptr H.length 0) (.agg ys) (H ++ [⟨z, true, true⟩]) _ = r
 rw [st_at w H.length 0 _ ⟨z, true, true⟩ ys _ _ hg hc hy (by rw [hz]; omega) rfl]
 have hs : splice z 0 ys = ys := by
  unfold splice
  rw [List.take_zero, List.nil_append, List.drop_of_length_le (by rw [hz, hy]; omega), List.append_nil]
 simp only [hs, set_at]
 exact h _ rfl (get_at H _ [])
theorem cut_at {N : Nat} {B : List Blk} (h1 : N + B.length ≤ H.length) (h2 : Lies H N B) : ∃ A C : Heap, A.length = N ∧ H = A ++ (B ++ C) := by
 refine ⟨H.take N, H.drop (N + B.length), by rw [List.length_take]; omega, ?_⟩
 have e : (H.drop N).take B.length = B := by
  apply List.ext_getElem?
  intro j
  by_cases hj : j < B.length
  ·rw [List.getElem?_take_of_lt hj, List.getElem?_drop]
   have hb : B[j]? = some (B[j]) := List.getElem?_eq_getElem hj
   rw [hb, h2 j _ hb]
  ·rw [List.getElem?_eq_none (by rw [List.length_take]; omega), List.getElem?_eq_none (by omega)]
 conv => lhs; rw [← List.take_append_drop N H, ← List.take_append_drop B.length (H.drop N), e, List.drop_drop]
theorem kept_at {A B B' C X : Heap} (hl : B'.length = B.length) : Kept (A ++ (B ++ C)) (A ++ (B' ++ (C ++ X))) A.length B.length := by
 refine ⟨by simp only [List.length_append, hl]; omega, fun i b h hd => ?_⟩
 rcases hd with hd | hd
 ·rw [List.getElem?_append_left hd] at h ⊢
  exact h
 ·rw [List.getElem?_append_right (by omega), List.getElem?_append_right (by omega)] at h ⊢
  rw [hl, List.getElem?_append_left (List.getElem?_eq_some_iff.1 h).1]
  exact h
theorem lm_mark {tI g ty N : Nat} {fs : List MF} {t : AV} {y : AV} {k : Int} {K : AV → Heap → Option β} (hmk : MarkOk n g ty fs) (hro : ∃ len cells, t = .ro len cells) (ha : AtT H y N ty t) (hw : wfF (.sub fs) t) (h0 : 0 ≤ k) (hb : k + cntF (.sub fs) t ≤ 4611686018427387904)
  (h : ∀ H', AtT H' y N ty (mkF (.sub fs) k t).1 → Kept H H' N (nbT t) → K (.sc (.int .i64 (k + cntF (.sub fs) t))) H' = r) : (PR n β).call tI (.fn g [] []) [y, .sc (.int .i64 k)] H (fun x H => K x H) = r := by
 obtain ⟨len, cells, rfl⟩ := hro
 obtain ⟨rfl, h2, h3⟩ := ha
 have hnb : ∀ M, (instT ti0 E0.tp M ty (.ro len cells)).2.length = nbT (.ro len cells) := fun M => inst_nb _ _ _
 obtain ⟨A, C, rfl, rfl⟩ := cut_at (by rw [hnb]; exact h2) h3
 rw [PR_hm hmk.1 hmk.2.1]
 refine hmk.2.2.2 len cells k hw h0 hb β A C _ r fun X => ?_
 rw [mkF_cnt]
 have hl : (instT ti0 E0.tp A.length ty (mkF (.sub fs) k (.ro len cells)).1).2.length = (instT ti0 E0.tp A.length ty (.ro len cells)).2.length := by rw [inst_nb, inst_nb, mkF_nb]
 refine h _ ⟨(mk_ro_same hmk k len cells A.length).symm, ?_, ?_⟩ ?_
 ·rw [mkF_nb]
  simp only [List.length_append, inst_nb, mkF_nb]
  omega
 ·have := Lies_in A (instT ti0 E0.tp A.length ty (mkF (.sub fs) k (.ro len cells)).1).2 (C ++ X)
  rwa [List.append_assoc] at this
 ·rw [← hnb A.length]
  exact kept_at hl
theorem lm_markv {tI g N : Nat} {cty : List Nat} {fs : List MF} {cs ys : List AV} {k : Int} {K : AV → Heap → Option β} (hmk : MarkV n g cty fs) (hv : fs.all isV = true) (ha : AtL H ys N cty cs) (hw : wfL fs cs) (h0 : 0 ≤ k) (hb : k + cntL fs cs ≤ 4611686018427387904)
  (h : ∀ H', AtL H' ys N cty (mkL fs k cs).1 → Kept H H' N (nbL cs) → K (.sc (.int .i64 (k + cntL fs cs))) H' = r) : (PR n β).call tI (.fn g [] []) [.agg ys, .sc (.int .i64 k)] H (fun x H => K x H) = r := by
 obtain ⟨rfl, h2, h3⟩ := ha
 have hnb : ∀ M, (instL ti0 E0.tp M cty cs).2.length = nbL cs := fun M => instL_nb _ _ _
 obtain ⟨A, C, rfl, rfl⟩ := cut_at (by rw [hnb]; exact h2) h3
 rw [PR_hm hmk.1 hmk.2.1]
 refine hmk.2.2 cs k β A C _ r hw h0 hb fun X => ?_
 rw [mkL_cnt]
 have hl : (instL ti0 E0.tp A.length cty (mkL fs k cs).1).2.length = (instL ti0 E0.tp A.length cty cs).2.length := by rw [instL_nb, instL_nb, mkL_nb]
 refine h _ ⟨(mkL_same cs fs k A.length cty hv hw).symm, ?_, ?_⟩ ?_
 ·rw [mkL_nb]
  simp only [List.length_append, instL_nb, mkL_nb]
  omega
 ·have := Lies_in A (instL ti0 E0.tp A.length cty (mkL fs k cs).1).2 (C ++ X)
  rwa [List.append_assoc] at this
 ·rw [← hnb A.length]
  exact kept_at hl
theorem lm_held {tI g : Nat} {fs : List MF} {t : AV} {y : AV} {k : Int} {K : AV → Heap → Option β} (hhe : HeldOk n g fs) (hro : ∃ len cells, t = .ro len cells) (hv : Vw H y (mkF (.sub fs) k t).1) (hw : wfF (.sub fs) t) (h0 : 0 ≤ k) (hb : k + cntF (.sub fs) t ≤ 4611686018427387904)
  {F : Heap → Option β} (h : K (.sc (.int .i64 (k + cntF (.sub fs) t))) H = r) : (PR n β).call tI (.fn g [] []) [y, .sc (.int .i64 k)] H (fun t H => pBin .lss t (.sc (.int .i64 0)) fun t' => pCond t' (F H) (K t H)) = r := by
 obtain ⟨len, cells, rfl⟩ := hro
 refine lw_sc hhe.1 (vcons hv (vcons (Vw_sc _ _) vnil)) (hhe.2 tI len cells k hw h0 hb) ?_
 rw [mkF_cnt, lss64, cond_b, if_neg (by simp; omega)]
 exact h
theorem lm_heldv {tI g : Nat} {fs : List MF} {cs : List AV} {y : AV} {k : Int} {K : AV → Heap → Option β} (hhe : HeldV n g fs) (hv : Vw H y (.agg (mkL fs k cs).1)) (hw : wfL fs cs) (h0 : 0 ≤ k) (hb : k + cntL fs cs ≤ 4611686018427387904)
  {F : Heap → Option β} (h : K (.sc (.int .i64 (k + cntL fs cs))) H = r) : (PR n β).call tI (.fn g [] []) [y, .sc (.int .i64 k)] H (fun t H => pBin .lss t (.sc (.int .i64 0)) fun t' => pCond t' (F H) (K t H)) = r := by
 refine lw_sc hhe.1 (vcons hv (vcons (Vw_sc _ _) vnil)) (hhe.2 tI cs k hw h0 hb) ?_
 rw [mkL_cnt, lss64, cond_b, if_neg (by simp; omega)]
 exact h
theorem lm_gf {m : (AV → Heap → Option β) → Option β} {k : AV → Heap → Option β} (h : m k = r) : pGuard (.sc (.bool false)) false H m k = r := h
theorem lm_pk {v : Value} {K : AV → Option β} (h : K (.sc v) = r) : pPick (.sc (.bool false)) (.sc (.bool true)) (.sc v) (fun t => K t) = r := h
theorem lm_not {b : Bool} {K : AV → Option β} (h : K (.sc (.bool (!b))) = r) : pUn .not (.sc (.bool b)) (fun t => K t) = r := h
theorem lm_cf {A K : Option β} (h : K = r) : pCond (.sc (.bool false)) A K = r := h
theorem lm_eq {ty f : Nat} {args vs : List AV} {K : AV → Heap → Option β} (hh : plainF f = false) (hv : args.mapM (viewV H 8) = some vs) (ht : tree E0 n ty f vs = some (.sc (.bool true))) (h : K (.sc (.bool true)) H = r) : (PR n β).call ty (.fn f [] []) args H (fun t H => K t H) = r := lw_sc hh hv ht h
theorem lm_neB {b : Bool} {K : AV → Option β} (h : K (.sc (.bool false)) = r) : pBinB .neq (.sc (.bool b)) (.sc (.bool b)) (fun t => K t) = r := by
 rw [neqB]
 cases b <;> exact h
theorem lm_neI {z : Int} {K : AV → Option β} (h : K (.sc (.bool false)) = r) : pBin .neq (.sc (.int .i64 z)) (.sc (.int .i64 z)) (fun t => K t) = r := by
 rw [neq64, bne_self_eq_false]
 exact h
theorem lm_neg {z : Int} {K : AV → Option β} (h0 : 0 ≤ z) (h : K (.sc (.bool false)) = r) : pBin .lss (.sc (.int .i64 z)) (.sc (.int .i64 0)) (fun t => K t) = r := by
 rw [lss64, show decide (z < 0) = false from by simp; omega]
 exact h
theorem lm_ex {vs : List AV} {i : Nat} {v : AV} {K : AV → Option β} (hi : vs[i]? = some v) (h : K v = r) : pExtr (.tup vs) i (fun t => K t) = r := by
 simp only [pExtr, hi, Option.bind_some]
 exact h
end steps
end Go.Proofs.YtejjggnchdldoaaDoor.Abs
set_option linter.unusedVariables false
set_option linter.unusedSimpArgs false
set_option maxRecDepth 100000
namespace Go.Proofs.YtejjggnchdldoaaDoor.Abs
open Go
variable {α : Type}
theorem wfv_fl : ∀ (cs : List AV) (fs : List MF), wfL fs cs → fs.all isV = true → cs.all isFl = true
 | [], fs, _, _ => rfl
 | c :: cs, [], hw, _ => absurd rfl hw.1
 | c :: cs, f :: fs, hw, hv => by
  obtain ⟨h1, h2⟩ := wfL_cons.1 hw
  rw [List.all_cons, Bool.and_eq_true] at hv
  rw [List.all_cons, wfv_fl cs fs h2 hv.2, Bool.and_true]
  cases c with
  | sc v => cases f <;> first | exact h1 | (exfalso; simpa [isV] using hv.1) | exact h1.elim
  | ro m cells => cases f <;> first | rfl | exact h1.elim
  | _ => exact h1.elim
theorem cnt_cc {f : MF} {fs : List MF} {c : AV} {cs : List AV} {a b : Nat} (h1 : cntF f c = a) (h2 : cntL fs cs = b) : cntL (f :: fs) (c :: cs) = a + b := by
 subst h1
 subst h2
 rfl
theorem mk_txt (n : Nat) (hn : 1048576 < n) : TxtOk (n + 1) 9 62 := txt_ok (n := n) rfl hn (fun kk => f62_l0 (PR n AV) n kk) (fun kk m k s H => rfl) (fun a H kk => f62_eq n a H kk)
def fdByteS : List FD := [⟨.byt, [], 0⟩]
def mfByteS : List MF := fdByteS.map FD.f
theorem mk_ByteS (n : Nat) (hn : 1048576 < n) : MarkOk (n + 2) 36 23 mfByteS :=
 mark_ok (n := n + 1) (tI := 3) (w := 1) (cty := [5]) (fds := fdByteS) rfl rfl (mk_txt n hn) ⟨rfl, trivial, trivial⟩ rfl ⟨_, _, rfl, rfl, rfl, rfl⟩ (by omega) (fun β kk => f36_l0 (PR (n + 1) β) (n + 1) kk) (fun β kk m a k i H => rfl) (fun β a b H kk => f36_eq (n + 1) a b H kk)
theorem hd_ByteS (n : Nat) (hn : 1048576 < n) : HeldOk (n + 2) 39 mfByteS :=
 held_ok (n := n + 1) (tI := 3) (w := 1) (fds := fdByteS) rfl (mk_txt n hn) ⟨rfl, trivial, trivial⟩ rfl (by decide) (by omega) (fun kk => f39_l0 (PR (n + 1) AV) (n + 1) kk) (fun kk m a k i H => rfl) (fun a b H kk => f39_eq (n + 1) a b H kk)
def fdIntS : List FD := [⟨.int, [], 0⟩]
def mfIntS : List MF := fdIntS.map FD.f
theorem mk_IntS (n : Nat) (hn : 1048576 < n) : MarkOk (n + 2) 10 22 mfIntS :=
 mark_ok (n := n + 1) (tI := 3) (w := 1) (cty := [3]) (fds := fdIntS) rfl rfl (mk_txt n hn) ⟨rfl, trivial, trivial⟩ rfl ⟨_, _, rfl, rfl, rfl, rfl⟩ (by omega) (fun β kk => f10_l0 (PR (n + 1) β) (n + 1) kk) (fun β kk m a k i H => rfl) (fun β a b H kk => f10_eq (n + 1) a b H kk)
theorem hd_IntS (n : Nat) (hn : 1048576 < n) : HeldOk (n + 2) 12 mfIntS :=
 held_ok (n := n + 1) (tI := 3) (w := 1) (fds := fdIntS) rfl (mk_txt n hn) ⟨rfl, trivial, trivial⟩ rfl (by decide) (by omega) (fun kk => f12_l0 (PR (n + 1) AV) (n + 1) kk) (fun kk m a k i H => rfl) (fun a b H kk => f12_eq (n + 1) a b H kk)
def fdStringS : List FD := [⟨.str, [], 0⟩]
def mfStringS : List MF := fdStringS.map FD.f
theorem mk_StringS (n : Nat) (hn : 1048576 < n) : MarkOk (n + 2) 38 25 mfStringS :=
 mark_ok (n := n + 1) (tI := 3) (w := 1) (cty := [9]) (fds := fdStringS) rfl rfl (mk_txt n hn) ⟨rfl, trivial, trivial⟩ rfl ⟨_, _, rfl, rfl, rfl, rfl⟩ (by omega) (fun β kk => f38_l0 (PR (n + 1) β) (n + 1) kk) (fun β kk m a k i H => rfl) (fun β a b H kk => f38_eq (n + 1) a b H kk)
theorem hd_StringS (n : Nat) (hn : 1048576 < n) : HeldOk (n + 2) 41 mfStringS :=
 held_ok (n := n + 1) (tI := 3) (w := 1) (fds := fdStringS) rfl (mk_txt n hn) ⟨rfl, trivial, trivial⟩ rfl (by decide) (by omega) (fun kk => f41_l0 (PR (n + 1) AV) (n + 1) kk) (fun kk m a k i H => rfl) (fun a b H kk => f41_eq (n + 1) a b H kk)
theorem wf_bytes (s : ByteArray) (h : s.size ≤ 1048576) : wfF (.sub mfByteS) (bytesC s) := by
 refine ⟨h, by rw [bytesAV_len]; show _ = s.size * 1; omega, ?_⟩
 have key : ∀ l : List UInt8, wfL (repF l.length mfByteS) (l.map fun b => .sc (.int .u8 b.toNat)) := by
  intro l
  induction l with
  | nil => rfl
  | cons b l ih =>
   rw [List.length_cons, repF_succ, List.map_cons]
   exact wfL_cons.2 ⟨trivial, ih⟩
 have := key s.data.toList
 rwa [show s.data.toList.length = s.size by simp] at this
theorem cnt_flat (f : MF) (e : α → Value) (h : ∀ x, cntF f (.sc (e x)) = 1) : ∀ l : List α, cntL (repF l.length [f]) (l.map fun x => .sc (e x)) = l.length
 | [] => rfl
 | x :: l => by
  rw [List.length_cons, repF_succ, List.map_cons]
  show cntF f (.sc (e x)) + cntL (repF l.length [f]) _ = _
  rw [h, cnt_flat f e h l]
  omega
theorem cnt_bytes (s : ByteArray) : cntF (.sub mfByteS) (bytesC s) = s.size := by
 have := cnt_flat .byt (fun b : UInt8 => .int .u8 b.toNat) (fun _ => rfl) s.data.toList
 rw [show s.data.toList.length = s.size by simp] at this
 exact this
theorem wf_ints (l : List Int) (h : l.length ≤ 1048576) : wfF (.sub mfIntS) (intsC l) := by
 refine ⟨h, by simp [mfIntS, fdIntS], ?_⟩
 clear h
 induction l with
 | nil => rfl
 | cons b l ih =>
  rw [List.length_cons, repF_succ, List.map_cons]
  exact wfL_cons.2 ⟨trivial, ih⟩
theorem cnt_ints (l : List Int) : cntF (.sub mfIntS) (intsC l) = l.length := cnt_flat .int (fun z : Int => .int .i64 z) (fun _ => rfl) l
theorem wf_strs (l : List ByteArray) (h : l.length ≤ 1048576) : wfF (.sub mfStringS) (strsC l) := by
 refine ⟨h, by simp [mfStringS, fdStringS], ?_⟩
 clear h
 induction l with
 | nil => rfl
 | cons b l ih =>
  rw [List.length_cons, repF_succ, List.map_cons]
  exact wfL_cons.2 ⟨trivial, ih⟩
theorem cnt_strs (l : List ByteArray) : cntF (.sub mfStringS) (strsC l) = l.length := cnt_flat .str (fun z : ByteArray => .string z) (fun _ => rfl) l
theorem smwS {wt : α → Nat} (sm : α → Prop) (hs : ∀ x, wt x ≤ 1048576 → sm x) (l : List α) (h : wtL wt l ≤ 1048576) : l.length ≤ 1048576 ∧ ∀ y ∈ l, sm y := by
 have h1 := wtL_eq wt l
 refine ⟨by omega, fun y hy => hs y ?_⟩
 have h2 := wtS_mem (wt := wt) hy
 omega
theorem wf_rows {enc : α → List AV} {fs : List MF} (l : List α) (h : l.length ≤ 1048576) (hw : ∀ x ∈ l, wfL fs (enc x)) : wfF (.sub fs) (rowsC enc l) := by
 have key : ∀ l : List α, (∀ x ∈ l, wfL fs (enc x)) → (l.map enc).flatten.length = l.length * fs.length ∧ wfL (repF l.length fs) (l.map enc).flatten := by
  intro l
  induction l with
  | nil => intro _; exact ⟨by simp, rfl⟩
  | cons x l ih =>
   intro hw
   obtain ⟨h1, h2⟩ := ih fun y hy => hw y (List.mem_cons_of_mem _ hy)
   have hx := hw x List.mem_cons_self
   have hl := wfL_len hx
   rw [List.map_cons, List.flatten_cons, List.length_cons, repF_succ]
   exact ⟨by rw [List.length_append, h1, ← hl, Nat.succ_mul]; omega, (wfL_append hl).2 ⟨hx, h2⟩⟩
 obtain ⟨h1, h2⟩ := key l hw
 exact ⟨h, h1, h2⟩
theorem cnt_rows {enc : α → List AV} {fs : List MF} {wt : α → Nat} : ∀ (l : List α), (∀ x ∈ l, fs.length = (enc x).length) → (∀ x ∈ l, cntL fs (enc x) ≤ 64 * (1 + wt x)) → cntF (.sub fs) (rowsC enc l) ≤ 64 * wtL wt l
 | [], _, _ => Nat.zero_le _
 | x :: l, hl, h => by
  have ih := cnt_rows l (fun y hy => hl y (List.mem_cons_of_mem _ hy)) (fun y hy => h y (List.mem_cons_of_mem _ hy))
  have hx := h x List.mem_cons_self
  show cntL (repF (l.length + 1) fs) (enc x ++ (l.map enc).flatten) ≤ _
  rw [repF_succ, cntL_append _ _ _ _ (hl x List.mem_cons_self), wtL]
  have ih : cntL (repF l.length fs) (l.map enc).flatten ≤ 64 * wtL wt l := ih
  omega
def fdWantS : List FD := [⟨.str, [0], 0⟩, ⟨.int, [1], 0⟩]
def fhWantS : List FD := [⟨.str, [0], 0⟩, ⟨.int, [1], 0⟩]
def mfWantS : List MF := fdWantS.map FD.f
def smWant (x : WantV) : Prop := True
theorem mk_WantS (n : Nat) (hn : 1048576 < n) : MarkOk (n + 2) 37 24 mfWantS :=
 mark_ok (n := n + 1) (tI := 3) (w := 2) (cty := ctyWant) (fds := fdWantS) rfl rfl (mk_txt (n + 0) (by omega)) ⟨rfl, trivial, ⟨rfl, trivial, trivial⟩⟩ rfl ⟨_, _, rfl, rfl, rfl, rfl⟩ (by omega) (fun β kk => f37_l0 (PR (n + 1) β) (n + 1) kk) (fun β kk m a k i H => rfl) (fun β a b H kk => f37_eq (n + 1) a b H kk)
theorem hd_WantS (n : Nat) (hn : 1048576 < n) : HeldOk (n + 2) 40 mfWantS :=
 held_ok (n := n + 1) (tI := 3) (w := 2) (fds := fhWantS) rfl (mk_txt (n + 0) (by omega)) ⟨rfl, trivial, ⟨rfl, trivial, trivial⟩⟩ rfl (by decide) (by omega) (fun kk => f40_l0 (PR (n + 1) AV) (n + 1) kk) (fun kk m a k i H => rfl) (fun a b H kk => f40_eq (n + 1) a b H kk)
theorem smwWant (x : WantV) (h : wtWant x ≤ 1048576) : smWant x := by
 have h0 := h
 unfold wtWant at h0
 exact trivial
theorem wfWant (x : WantV) (h : smWant x) : wfL mfWantS (encWant x) := by
 exact wfL_cons.2 ⟨trivial, wfL_cons.2 ⟨trivial, rfl⟩⟩
theorem cntWant (x : WantV) : cntL mfWantS (encWant x) ≤ 64 * (1 + wtWant x) := by
 show 1 + (1 + 0) ≤ _
 unfold wtWant
 omega
def fdPacketS : List FD := [⟨.int, [0], 0⟩, ⟨.bool, [1], 0⟩, ⟨.int, [2], 0⟩, ⟨.bool, [3], 0⟩, ⟨.int, [4], 0⟩, ⟨.str, [5], 0⟩, ⟨.sub mfByteS, [6], 36⟩, ⟨.str, [7], 0⟩, ⟨.int, [8], 0⟩, ⟨.bool, [9], 0⟩, ⟨.int, [10], 0⟩, ⟨.bool, [11], 0⟩, ⟨.str, [12], 0⟩, ⟨.sub mfByteS, [13], 36⟩, ⟨.int, [14], 0⟩, ⟨.bool, [15], 0⟩, ⟨.bool, [16], 0⟩, ⟨.str, [17], 0⟩, ⟨.bool, [18], 0⟩, ⟨.sub mfByteS, [19], 36⟩, ⟨.int, [20], 0⟩, ⟨.bool, [21], 0⟩, ⟨.sub mfWantS, [22], 37⟩, ⟨.sub mfStringS, [23], 38⟩, ⟨.sub mfIntS, [24], 10⟩]
def fhPacketS : List FD := [⟨.int, [0], 0⟩, ⟨.bool, [1], 0⟩, ⟨.int, [2], 0⟩, ⟨.bool, [3], 0⟩, ⟨.int, [4], 0⟩, ⟨.str, [5], 0⟩, ⟨.sub mfByteS, [6], 39⟩, ⟨.str, [7], 0⟩, ⟨.int, [8], 0⟩, ⟨.bool, [9], 0⟩, ⟨.int, [10], 0⟩, ⟨.bool, [11], 0⟩, ⟨.str, [12], 0⟩, ⟨.sub mfByteS, [13], 39⟩, ⟨.int, [14], 0⟩, ⟨.bool, [15], 0⟩, ⟨.bool, [16], 0⟩, ⟨.str, [17], 0⟩, ⟨.bool, [18], 0⟩, ⟨.sub mfByteS, [19], 39⟩, ⟨.int, [20], 0⟩, ⟨.bool, [21], 0⟩, ⟨.sub mfWantS, [22], 40⟩, ⟨.sub mfStringS, [23], 41⟩, ⟨.sub mfIntS, [24], 12⟩]
def mfPacketS : List MF := fdPacketS.map FD.f
def smPacket (x : PacketV) : Prop := x.fBody.size ≤ 1048576 ∧ x.fWBody.size ≤ 1048576 ∧ x.fPass.size ≤ 1048576 ∧ (x.fWants.length ≤ 1048576 ∧ ∀ y ∈ x.fWants, smWant y) ∧ x.fNames.length ≤ 1048576 ∧ x.fCodes.length ≤ 1048576 ∧ True
theorem smwPacket (x : PacketV) (h : wtPacket x ≤ 1048576) : smPacket x := by
 have e3 := wtL_eq wtWant x.fWants
 have e4 := wtL_eq ByteArray.size x.fNames
 have h0 := h
 unfold wtPacket at h0
 exact ⟨by omega, by omega, by omega, smwS smWant smwWant _ (by omega), by omega, by omega, trivial⟩
theorem wfPacket (x : PacketV) (h : smPacket x) : wfL mfPacketS (encPacket x) := by
 obtain ⟨h0, h1, h2, h3, h4, h5, _⟩ := h
 exact wfL_cons.2 ⟨trivial, wfL_cons.2 ⟨trivial, wfL_cons.2 ⟨trivial, wfL_cons.2 ⟨trivial, wfL_cons.2 ⟨trivial, wfL_cons.2 ⟨trivial, wfL_cons.2 ⟨wf_bytes _ h0, wfL_cons.2 ⟨trivial, wfL_cons.2 ⟨trivial, wfL_cons.2 ⟨trivial, wfL_cons.2 ⟨trivial, wfL_cons.2 ⟨trivial, wfL_cons.2 ⟨trivial, wfL_cons.2 ⟨wf_bytes _ h1, wfL_cons.2 ⟨trivial, wfL_cons.2 ⟨trivial, wfL_cons.2 ⟨trivial, wfL_cons.2 ⟨trivial, wfL_cons.2 ⟨trivial, wfL_cons.2 ⟨wf_bytes _ h2, wfL_cons.2 ⟨trivial, wfL_cons.2 ⟨trivial, wfL_cons.2 ⟨wf_rows _ h3.1 fun y hy => wfWant y (h3.2 y hy), wfL_cons.2 ⟨wf_strs _ h4, wfL_cons.2 ⟨wf_ints _ h5, rfl⟩⟩⟩⟩⟩⟩⟩⟩⟩⟩⟩⟩⟩⟩⟩⟩⟩⟩⟩⟩⟩⟩⟩⟩⟩
theorem cntPacket (x : PacketV) : cntL mfPacketS (encPacket x) ≤ 64 * (1 + wtPacket x) := by
 have c0 := cnt_bytes x.fBody
 have c1 := cnt_bytes x.fWBody
 have c2 := cnt_bytes x.fPass
 have c3 := cnt_rows (fs := mfWantS) (wt := wtWant) x.fWants (fun y _ => rfl) (fun y _ => cntWant y)
 have c4 := cnt_strs x.fNames
 have c5 := cnt_ints x.fCodes
 have e4 := wtL_eq ByteArray.size x.fNames
 obtain ⟨u, hu⟩ : ∃ u : Nat, u = 1 := ⟨_, rfl⟩
 have cE : cntL mfPacketS (encPacket x) = u + (u + (u + (u + (u + (u + (cntF (.sub mfByteS) (bytesC x.fBody) + (u + (u + (u + (u + (u + (u + (cntF (.sub mfByteS) (bytesC x.fWBody) + (u + (u + (u + (u + (u + (cntF (.sub mfByteS) (bytesC x.fPass) + (u + (u + (cntF (.sub mfWantS) (rowsC encWant x.fWants) + (cntF (.sub mfStringS) (strsC x.fNames) + (cntF (.sub mfIntS) (intsC x.fCodes) + 0)))))))))))))))))))))))) := by
  subst hu
  exact cnt_cc rfl (cnt_cc rfl (cnt_cc rfl (cnt_cc rfl (cnt_cc rfl (cnt_cc rfl (cnt_cc rfl (cnt_cc rfl (cnt_cc rfl (cnt_cc rfl (cnt_cc rfl (cnt_cc rfl (cnt_cc rfl (cnt_cc rfl (cnt_cc rfl (cnt_cc rfl (cnt_cc rfl (cnt_cc rfl (cnt_cc rfl (cnt_cc rfl (cnt_cc rfl (cnt_cc rfl (cnt_cc rfl (cnt_cc rfl (cnt_cc rfl (rfl)))))))))))))))))))))))))
 rw [cE]
 clear cE
 generalize cntF (.sub mfByteS) (bytesC x.fBody) = a0 at c0 ⊢
 generalize cntF (.sub mfByteS) (bytesC x.fWBody) = a1 at c1 ⊢
 generalize cntF (.sub mfByteS) (bytesC x.fPass) = a2 at c2 ⊢
 generalize cntF (.sub mfWantS) (rowsC encWant x.fWants) = a3 at c3 ⊢
 generalize cntF (.sub mfStringS) (strsC x.fNames) = a4 at c4 ⊢
 generalize cntF (.sub mfIntS) (intsC x.fCodes) = a5 at c5 ⊢
 unfold wtPacket
 simp only [← Nat.add_assoc, Nat.add_zero, Nat.mul_add]
 omega
def fvPacket : List FV := [.skip, .skip, .skip, .skip, .skip, .skip, .sub mfByteS [6] 36, .skip, .skip, .skip, .skip, .skip, .skip, .sub mfByteS [13] 36, .skip, .skip, .skip, .skip, .skip, .sub mfByteS [19] 36, .skip, .skip, .sub mfWantS [22] 37, .sub mfStringS [23] 38, .sub mfIntS [24] 10]
def fwPacket : List FV := [.skip, .skip, .skip, .skip, .skip, .skip, .sub mfByteS [6] 39, .skip, .skip, .skip, .skip, .skip, .skip, .sub mfByteS [13] 39, .skip, .skip, .skip, .skip, .skip, .sub mfByteS [19] 39, .skip, .skip, .sub mfWantS [22] 40, .sub mfStringS [23] 41, .sub mfIntS [24] 12]
def mvPacket : List MF := flatV fvPacket
theorem wfvPacket (x : PacketV) (h : smPacket x) : wfL mvPacket (encPacket x) := by
 obtain ⟨h0, h1, h2, h3, h4, h5, _⟩ := h
 exact wfL_cons.2 ⟨rfl, wfL_cons.2 ⟨rfl, wfL_cons.2 ⟨rfl, wfL_cons.2 ⟨rfl, wfL_cons.2 ⟨rfl, wfL_cons.2 ⟨rfl, wfL_cons.2 ⟨wf_bytes _ h0, wfL_cons.2 ⟨rfl, wfL_cons.2 ⟨rfl, wfL_cons.2 ⟨rfl, wfL_cons.2 ⟨rfl, wfL_cons.2 ⟨rfl, wfL_cons.2 ⟨rfl, wfL_cons.2 ⟨wf_bytes _ h1, wfL_cons.2 ⟨rfl, wfL_cons.2 ⟨rfl, wfL_cons.2 ⟨rfl, wfL_cons.2 ⟨rfl, wfL_cons.2 ⟨rfl, wfL_cons.2 ⟨wf_bytes _ h2, wfL_cons.2 ⟨rfl, wfL_cons.2 ⟨rfl, wfL_cons.2 ⟨wf_rows _ h3.1 fun y hy => wfWant y (h3.2 y hy), wfL_cons.2 ⟨wf_strs _ h4, wfL_cons.2 ⟨wf_ints _ h5, rfl⟩⟩⟩⟩⟩⟩⟩⟩⟩⟩⟩⟩⟩⟩⟩⟩⟩⟩⟩⟩⟩⟩⟩⟩⟩
theorem cntvPacket (x : PacketV) : cntL mvPacket (encPacket x) ≤ 64 * wtPacket x := by
 have c0 := cnt_bytes x.fBody
 have c1 := cnt_bytes x.fWBody
 have c2 := cnt_bytes x.fPass
 have c3 := cnt_rows (fs := mfWantS) (wt := wtWant) x.fWants (fun y _ => rfl) (fun y _ => cntWant y)
 have c4 := cnt_strs x.fNames
 have c5 := cnt_ints x.fCodes
 have e4 := wtL_eq ByteArray.size x.fNames
 obtain ⟨u, hu⟩ : ∃ u : Nat, u = 0 := ⟨_, rfl⟩
 have cE : cntL mvPacket (encPacket x) = u + (u + (u + (u + (u + (u + (cntF (.sub mfByteS) (bytesC x.fBody) + (u + (u + (u + (u + (u + (u + (cntF (.sub mfByteS) (bytesC x.fWBody) + (u + (u + (u + (u + (u + (cntF (.sub mfByteS) (bytesC x.fPass) + (u + (u + (cntF (.sub mfWantS) (rowsC encWant x.fWants) + (cntF (.sub mfStringS) (strsC x.fNames) + (cntF (.sub mfIntS) (intsC x.fCodes) + 0)))))))))))))))))))))))) := by
  subst hu
  exact cnt_cc rfl (cnt_cc rfl (cnt_cc rfl (cnt_cc rfl (cnt_cc rfl (cnt_cc rfl (cnt_cc rfl (cnt_cc rfl (cnt_cc rfl (cnt_cc rfl (cnt_cc rfl (cnt_cc rfl (cnt_cc rfl (cnt_cc rfl (cnt_cc rfl (cnt_cc rfl (cnt_cc rfl (cnt_cc rfl (cnt_cc rfl (cnt_cc rfl (cnt_cc rfl (cnt_cc rfl (cnt_cc rfl (cnt_cc rfl (cnt_cc rfl (rfl)))))))))))))))))))))))))
 rw [cE]
 clear cE
 generalize cntF (.sub mfByteS) (bytesC x.fBody) = a0 at c0 ⊢
 generalize cntF (.sub mfByteS) (bytesC x.fWBody) = a1 at c1 ⊢
 generalize cntF (.sub mfByteS) (bytesC x.fPass) = a2 at c2 ⊢
 generalize cntF (.sub mfWantS) (rowsC encWant x.fWants) = a3 at c3 ⊢
 generalize cntF (.sub mfStringS) (strsC x.fNames) = a4 at c4 ⊢
 generalize cntF (.sub mfIntS) (intsC x.fCodes) = a5 at c5 ⊢
 unfold wtPacket
 simp only [← Nat.add_assoc, Nat.add_zero, Nat.mul_add]
 omega
theorem lf_Packet : ∀ (cs : List AV) (N : Nat), wfL mvPacket cs → (instL ti0 E0.tp N ctyPacket cs).1.all isLeaf = true := fun cs N h => instL_leaf _ _ _ (wfv_fl cs mvPacket h rfl)
theorem mk_PacketV (n : Nat) (hn : 1048576 < n) : MarkV (n + 3) 11 ctyPacket mvPacket :=
 markv_ok (n := n + 2) (tI := 3) (fvs := fvPacket) rfl rfl ⟨rfl, mk_ByteS (n + 0) (by omega), ⟨rfl, mk_ByteS (n + 0) (by omega), ⟨rfl, mk_ByteS (n + 0) (by omega), ⟨rfl, mk_WantS (n + 0) (by omega), ⟨rfl, mk_StringS (n + 0) (by omega), ⟨rfl, mk_IntS (n + 0) (by omega), trivial⟩⟩⟩⟩⟩⟩ rfl lf_Packet (fun β a b H kk => f11_eq (n + 2) a b H kk)
theorem hd_PacketV (n : Nat) (hn : 1048576 < n) : HeldV (n + 3) 13 mvPacket :=
 heldv_ok (n := n + 2) (tI := 3) (fvs := fwPacket) rfl ⟨rfl, hd_ByteS (n + 0) (by omega), ⟨rfl, hd_ByteS (n + 0) (by omega), ⟨rfl, hd_ByteS (n + 0) (by omega), ⟨rfl, hd_WantS (n + 0) (by omega), ⟨rfl, hd_StringS (n + 0) (by omega), ⟨rfl, hd_IntS (n + 0) (by omega), trivial⟩⟩⟩⟩⟩⟩ rfl (fun a b H kk => f13_eq (n + 2) a b H kk)
end Go.Proofs.YtejjggnchdldoaaDoor.Abs
set_option linter.unusedVariables false
set_option linter.unusedSimpArgs false
set_option maxRecDepth 100000
set_option maxHeartbeats 1600000
namespace Go.Proofs.YtejjggnchdldoaaDoor.Abs
open Go
def sI (z : Int) : AV := .sc (.int .i64 z)
theorem ints_sI (l : List Int) : intsC l = .ro l.length (l.map sI) := rfl
theorem all_sI (l : List Int) : (l.map sI).all isSc = true := sc_ints l
def keepI (id : Int) (l : List Int) : List Int := l.filter fun x => !(decide (x = id))
theorem keepI_all (id : Int) (l : List Int) (h : ∀ x ∈ l, decide (x = id) = false) : keepI id l = l := by
 unfold keepI
 rw [List.filter_eq_self]
 intro x hx
 rw [h x hx]
 rfl
theorem keepI_app (id : Int) (a b : List Int) : keepI id (a ++ b) = keepI id a ++ keepI id b := List.filter_append ..
theorem keepI_cons (id x : Int) (l : List Int) : keepI id (x :: l) = (if decide (x = id) then keepI id l else x :: keepI id l) := by
 unfold keepI
 rw [List.filter_cons]
 cases decide (x = id) <;> rfl
theorem keepI_len (id : Int) (l : List Int) : (keepI id l).length ≤ l.length := List.length_filter_le _ _
theorem idxI_or (p : Int → Bool) : ∀ (l : List Int) (i : Nat), (idxOf p l i = -1 ∧ ∀ x ∈ l, p x = false) ∨ ∃ pre x t, l = pre ++ x :: t ∧ (∀ y ∈ pre, p y = false) ∧ p x = true ∧ idxOf p l i = (i : Int) + pre.length
 | [], i => .inl ⟨rfl, fun x hx => by cases hx⟩
 | x :: l, i => by
  rw [idxOf]
  cases hx : p x
  ·rw [if_neg (by simp)]
   rcases idxI_or p l (i + 1) with ⟨h1, h2⟩ | ⟨pre, y, t, rfl, h2, h3, h4⟩
   ·refine .inl ⟨h1, fun z hz => ?_⟩
    rcases List.mem_cons.1 hz with rfl | hz
    ·exact hx
    ·exact h2 z hz
   ·refine .inr ⟨x :: pre, y, t, rfl, fun z hz => ?_, h3, ?_⟩
    ·rcases List.mem_cons.1 hz with rfl | hz
     ·exact hx
     ·exact h2 z hz
    ·rw [h4, List.length_cons]
     omega
  ·rw [if_pos rfl]
   exact .inr ⟨[], x, l, rfl, fun y hy => (by cases hy), hx, by simp⟩
section
variable {β : Type} {n : Nat} {H : Heap} {L L' L1 : List Ck} {G : Option β → Prop} {KH : AV → Heap → Option β}
theorem g_callSC {ty : Nat} {f : FuncId} {caps args vs : List AV} {v : Value} (hs : Sep H L) (hh : plainF f = false) (hv : VwL L 8 (args ++ caps) vs) (ht : tree E0 n ty f vs = some (.sc v)) (h : Gd G (KH (.sc v) H)) : Gd G ((PR n β).call ty (.fn f [] caps) args H fun x H => KH x H) := by
 refine g_callE hs hh hv ht ?_
 rw [instT_sc, List.append_nil]
 exact h
theorem inClo (n ty : Nat) (x id : Int) : tree E0 (n + 1) ty 31 [sI x, .rp [sI id]] = some (.sc (.bool (decide (x = id)))) := by
 rw [tree_def, f31_eq, f31]
 simp only [PR_load, PR_bin, sI]
 refine tree_gd (G := (· = _)) ?_
 refine g_ldR (c := .sc (.int .i64 id)) rfl ?_
 refine g_eql ?_
 rfl
theorem inIdx_loop (id : Int) (l : List Int) (hlen : l.length ≤ 1048576) (k : AV → Heap → Option β) (s : Sep H L) : ∀ (t pre : List Int) (m : Nat) (i : Int), l = pre ++ t → i = ((pre.length : Nat) : Int) → t.length < m → Gd G (k (sI (idxOf (fun x => decide (x = id)) t pre.length)) H) →
  Gd G (f58_l0 (PR (n + 1) β) (n + 1) k m (intsC l) (.fn 31 [] [.rp [sI id]]) (sI l.length) (sI i) H)
 | [], pre, m + 1, i, hl, hi, hm, h => by
  obtain rfl : pre = l := by simpa using hl.symm
  rw [f58_l0]
  simp only [PR_bin, PR_cond, PR_iadr, PR_load]
  refine g_lss ?_
  refine g_cF (by simp [hi]) ?_
  exact h
 | x :: t, pre, m + 1, i, hl, hi, hm, h => by
  have hlt : pre.length < l.length := by rw [hl]; simp
  rw [f58_l0]
  simp only [PR_bin, PR_cond, PR_iadr, PR_load]
  refine g_lss ?_
  refine g_cT (by simp [hi]; omega) ?_
  refine ints_iadr hi hl ?_
  refine g_ldR (c := sI x) rfl ?_
  refine g_callSC s rfl (.cons .sc (.cons .rp .nil)) (inClo n _ x id) ?_
  rw [idxOf] at h
  by_cases hx : x = id
  ·rw [if_pos (by simpa using hx)] at h
   refine g_cT (by simpa using hx) ?_
   rw [hi]
   exact h
  ·rw [if_neg (by simpa using hx)] at h
   refine g_cF (by simpa using hx) ?_
   refine g_add (by omega) (by omega) ?_
   exact inIdx_loop id l hlen k s t (pre ++ [x]) m _ (by rw [hl]; simp) (by rw [hi]; simp) (by simpa using hm) (by simpa using h)
theorem inIdxF (n : Nat) (hn : 1048576 < n) (ty : Nat) (l : List Int) (id : Int) (hl : l.length ≤ 1048576) : tree E0 (n + 2) ty 58 [intsC l, .fn 31 [] [.rp [sI id]]] = some (.sc (.int .i64 (idxOf (fun x => decide (x = id)) l 0))) := by
 rw [tree_def, f58_eq, f58]
 refine tree_gd (G := (· = _)) ?_
 simp only [PR_len]
 refine g_len ?_
 exact inIdx_loop id l hl _ sep_nil l [] (n + 1) 0 rfl rfl (by omega) rfl
theorem inDel_loop (id : Int) (len ib ic : Nat) (P Q : List AV) (hlen : len ≤ 1048576) (k : AV → Heap → Option β) (fin : List Int) (hk : ∀ x' H', isLeaf x' = true → Sep H' (.own x' 22 (intsC fin) :: .blk ic [sI id] true :: L) → Gd G (k x' H')) : ∀ (rest kept M : List Int) (z : Int) (m : Nat) (i j : Int) (H : Heap), rest.length < m → i = ((kept.length : Nat) : Int) → j = ((kept.length + 1 + M.length : Nat) : Int) → kept.length + 1 + M.length + rest.length = len → kept ++ keepI id rest = fin → Sep H (.blk ib (P ++ ((kept ++ (z :: M ++ rest)).map sI ++ Q)) true :: .blk ic [sI id] true :: L) →
  Gd G (f30_l0 (PR (n + 1) β) (n + 1) k m (.sl ib P.length len 1) (.fn 31 [] [.ptr ic 0]) (sI i) (sI j) H)
 | [], kept, M, z, m + 1, i, j, H, hm, hi, hj, hl, hf, s => by
  have hff : kept = fin := by rw [← hf]; simp [keepI]
  rw [List.length_nil, Nat.add_zero] at hl
  rw [f30_l0]
  simp only [PR_len, PR_bin, PR_cond, PR_slice, PR_clear, PR_iadr, PR_load, PR_store, PR_un]
  refine g_lenL ?_
  refine g_lss ?_
  refine g_cF (decide_eq_false (by omega)) ?_
  have e1 : ∀ k : AV → Option β, pSlice 1 (.sl ib P.length len 1) (some (sI i)) none k = k (.sl ib (P.length + kept.length) (M.length + 1) 1) := by
   intro k
   simp only [pSlice, lenA, bound, asI, Option.bind_some, if_true, sI, hi]
   rw [if_pos (by omega)]
   congr 2
   ·omega
   ·omega
  have e2 : ∀ k : AV → Option β, pSlice 1 (.sl ib P.length len 1) none (some (sI i)) k = k (.sl ib P.length kept.length 1) := by
   intro k
   simp only [pSlice, lenA, bound, asI, Option.bind_some, if_true, sI, hi]
   rw [if_pos (by omega)]
   congr 2
  refine g_congr (e1 _) ?_
  have hb := s.blk .here
  have e3 : ∀ k : Heap → Option β, pClear 1 [.sc (.int .i64 0)] (.sl ib (P.length + kept.length) (M.length + 1) 1) H k = k (H.set ib ⟨P ++ (kept.map sI ++ (List.replicate (M.length + 1) (sI 0) ++ Q)), true, true⟩) := by
   intro k
   simp only [pClear, if_true, hb]
   rw [if_pos (by simp only [List.length_append, List.length_map, List.length_cons, List.length_nil]; omega)]
   congr 3
   have hz : (List.replicate (M.length + 1) [AV.sc (.int .i64 0)]).flatten = List.replicate (M.length + 1) (sI 0) := by
    generalize M.length + 1 = q
    induction q with
    | zero => rfl
    | succ q ih => rw [List.replicate_succ, List.flatten_cons, ih]; rfl
   rw [hz]
   have hsp := splice_mid (P ++ kept.map sI) ((z :: M).map sI) Q (List.replicate (M.length + 1) (sI 0)) (by simp)
   rw [List.length_append, List.length_map] at hsp
   rw [show P ++ (List.map sI (kept ++ (z :: M ++ [])) ++ Q) = P ++ kept.map sI ++ ((z :: M).map sI ++ Q) by simp, hsp]
   simp
  refine g_congr (e3 _) ?_
  refine g_congr (e2 _) ?_
  have s2 := s.put .here (P ++ (kept.map sI ++ (List.replicate (M.length + 1) (sI 0) ++ Q))) true
  have s3 := s2.closeR (ty := 22) (sz := 1) (m := kept.length) ⟨_, _, rfl, rfl, rfl, rfl⟩ (all_sI kept) (by simp)
  subst hff
  exact hk _ _ rfl s3
 | x :: rest, kept, M, z, m + 1, i, j, H, hm, hi, hj, hl, hf, s => by
  rw [List.length_cons] at hl
  rw [f30_l0]
  simp only [PR_len, PR_bin, PR_cond, PR_slice, PR_clear, PR_iadr, PR_load, PR_store, PR_un]
  refine g_lenL ?_
  refine g_lss ?_
  refine g_cT (decide_eq_true (by omega)) ?_
  refine g_iadrS (by omega) (by omega) ?_
  refine g_ld (c := sI x) s .here ?_ ?_
  ·rw [show P ++ (List.map sI (kept ++ (z :: M ++ x :: rest)) ++ Q) = (P ++ (kept ++ z :: M).map sI) ++ (sI x :: (rest.map sI ++ Q)) by simp]
   rw [List.getElem?_append_right (by simp; omega)]
   rw [show P.length + j.toNat * 1 - (P ++ (kept ++ z :: M).map sI).length = 0 by simp; omega]
   rfl
  refine g_callSC s rfl (.cons .sc (.ptr (.there .here) (.cons .sc .nil) .nil)) (inClo n _ x id) ?_
  refine g_not ?_
  rw [keepI_cons] at hf
  by_cases hx : x = id
  ·rw [if_pos (by simpa using hx)] at hf
   refine g_cF (by simpa using hx) ?_
   refine g_add (by omega) (by omega) ?_
   exact inDel_loop id len ib ic P Q hlen k fin hk rest kept (M ++ [x]) z m i _ H (by simpa using hm) hi (by rw [hj]; simp; omega) (by simp; omega) hf (by simpa using s)
  ·rw [if_neg (by simpa using hx)] at hf
   refine g_cT (by simpa using hx) ?_
   refine g_iadrS (by omega) (by omega) ?_
   have hcs : splice (P ++ ((kept ++ (z :: M ++ x :: rest)).map sI ++ Q)) (P.length + i.toNat * 1) [sI x] = P ++ ((kept ++ [x] ++ (M ++ [x] ++ rest)).map sI ++ Q) := by
    have hsp := splice_mid (P ++ kept.map sI) [sI z] ((M ++ x :: rest).map sI ++ Q) [sI x] rfl
    rw [List.length_append, List.length_map] at hsp
    rw [show P.length + i.toNat * 1 = P.length + kept.length by omega, show P ++ (List.map sI (kept ++ (z :: M ++ x :: rest)) ++ Q) = P ++ kept.map sI ++ ([sI z] ++ ((M ++ x :: rest).map sI ++ Q)) by simp, hsp]
    simp
   refine g_st (ds := [sI x]) s .here rfl rfl (by simp; omega) hcs fun H' s' => ?_
   refine g_add (by omega) (by omega) ?_
   refine g_add (by omega) (by omega) ?_
   obtain ⟨z', M', hM⟩ : ∃ z' M', M ++ [x] = z' :: M' := by cases M <;> exact ⟨_, _, rfl⟩
   have hML : M.length = M'.length := by have := congrArg List.length hM; simpa using this
   rw [hM] at s'
   exact inDel_loop id len ib ic P Q hlen k fin hk rest (kept ++ [x]) M' z' m _ _ H' (by simpa using hm) (by rw [hi]; simp) (by rw [hj]; simp; omega) (by simp; omega) (by simpa using hf) s'
theorem inDelK (n : Nat) (hn : 1048576 < n) (id : Int) (l : List Int) (hl : l.length ≤ 1048576) (x : AV) (lx : isLeaf x = true) (ic : Nat) (s : Sep H (.own x 22 (intsC l) :: .blk ic [sI id] true :: L)) (hk : ∀ x' H', isLeaf x' = true → Sep H' (.own x' 22 (intsC (keepI id l)) :: .blk ic [sI id] true :: L) → Gd G (KH x' H')) :
  Gd G (evalFn E0 (n + 3) β 30 [x, .fn 31 [] [.ptr ic 0]] H fun x H => KH x H) := by
 rw [f30_eq, f30]
 simp only [PR_bin, PR_cond]
 refine g_callS (v := .int .i64 (idxOf (fun x => decide (x = id)) l 0)) s rfl (.cons (.own (by decide) .here) (.fn .nil (.ptr (.there .here) (.cons .sc .nil) .nil) .nil)) (inIdxF n hn _ l id hl) ?_
 refine g_eql ?_
 rcases idxI_or (fun x => decide (x = id)) l 0 with ⟨e1, e2⟩ | ⟨pre, y, t, rfl, e2, e3, e4⟩
 ·rw [e1]
  refine g_cT rfl ?_
  rw [keepI_all id l e2] at hk
  exact hk x H lx s
 ·rw [e4]
  refine g_cF (decide_eq_false (by omega)) ?_
  have hl2 : (pre ++ y :: t).length = pre.length + 1 + t.length := by simp; omega
  refine g_add (by omega) (by omega) ?_
  rcases s.openR (sz := 1) ⟨_, _, rfl, rfl, rfl⟩ .here (all_sI (pre ++ y :: t)) with ⟨_, h0, _⟩ | ⟨ib, P, Q, rfl, _, s2⟩
  ·omega
  ·refine inDel_loop id _ ib ic P Q hl KH (keepI id (pre ++ y :: t)) hk t pre [] y (n + 2) _ _ H (by omega) (by simp) (by simp) (by simp; omega) ?_ s2
   rw [keepI_app, keepI_all id pre e2, keepI_cons, if_pos e3]
end
def vInRel (l : List Int) (id : Int) : List Int := if vInOk l = true then keepI id l else l
theorem cpI (n : Nat) (x0 : List Int) (b0 : x0.length ≤ 1048576) : tree E0 (n + 1) 22 28 [intsC x0] = some (intsC x0) := by
 rw [tree_def, f28_eq, f28]
 refine tree_gd (G := (· = some (intsC x0))) ?_
 try simp only [PR_box, PR_new, PR_newSl, PR_fadr, PR_load, PR_store, PR_bin, PR_binB, PR_binA, PR_un, PR_cond, PR_guard, PR_pick, PR_len, PR_lenS, PR_iadr, PR_idx, PR_slice, PR_sliceS, PR_fill, PR_make, PR_app, PR_appS, PR_cvI, PR_cvSS, PR_cvBS, PR_cvSB, PR_extr, PR_nil, PR_clear, PR_fld, PR_apart, PR_same]
 have s0 : Sep [] [] := sep_nil
 refine g_copyI (ty := 22) s0 ⟨_, _, rfl, rfl, rfl, rfl⟩ rfl (by omega) fun x1 H lx1 s2 => ?_
 refine g_ret (ret_own s2 (.here)) ?_
 first | rfl | (simp_all; done)
theorem implF_InRel (n : Nat) (hn : 1048576 < n) (x0 : List Int) (x1 : Int) (k0 : x0.length ≤ 9223372036854775807 ∧ ∀ z ∈ x0, okI z) (k1 : okI x1) (b0 : x0.length ≤ 1048576) : tree E0 (n + 6) 28 7 [intsC x0, .sc (.int .i64 x1)] = some (.tup [intsC (vInRel x0 x1), .agg (encPacket (vWid 7 x1))]) := by
 rw [tree_def, f7_eq, f7]
 refine tree_gd (G := (· = some (.tup [intsC (vInRel x0 x1), .agg (encPacket (vWid 7 x1))]))) ?_
 try simp only [PR_box, PR_new, PR_newSl, PR_fadr, PR_load, PR_store, PR_bin, PR_binB, PR_binA, PR_un, PR_cond, PR_guard, PR_pick, PR_len, PR_lenS, PR_iadr, PR_idx, PR_slice, PR_sliceS, PR_fill, PR_make, PR_app, PR_appS, PR_cvI, PR_cvSS, PR_cvBS, PR_cvSB, PR_extr, PR_nil, PR_clear, PR_fld, PR_apart, PR_same]
 have s0 : Sep [] [] := sep_nil
 refine g_box s0 (cells_leaf rfl) fun i1 H s2 => ?_
 refine g_new s2 fun i3 H s4 => ?_
 refine g_callO s4 rfl (.cons .ro .nil) (cpI (n + 4) x0 b0) (okI6 x0) fun x5 H lx5 s6 => ?_
 refine g_callS (v := (.bool (vInOk x0))) s6 rfl (.cons .ro .nil) (implInF (n + 1) (by omega) _ x0 b0) ?_
 refine g_letJ ?_
 refine w_split ((vInOk x0)) (fun h7 => ?_) (fun h7 => ?_)
 ·refine g_cT h7 ?_
  have s8' := s6.sel (.cons (.here) (.cons (.there (.here)) .rest))
  refine g_hm rfl rfl ?_
  refine inDelK (n + 2) (by omega) x1 x0 b0 x5 lx5 i1 s8' fun x9 H lx9 s8 => ?_
  refine g_ld (c := .sc (.int .i64 x1)) s8 (.there (.here)) rfl ?_
  have c10 := implWid7F (n + 1) (by omega) x1
  refine g_callA s8 rfl (.cons .sc (.cons .sc .nil)) (c10) ⟨_, rfl, rfl⟩ (insPacket (vWid 7 x1)) ?_
  rintro _ _ H ⟨x11, x12, x13, x14, x15, x16, lx11, lx12, lx13, lx14, lx15, lx16, rfl, rfl⟩ s17
  simp only [List.nil_append, List.cons_append] at s17
  refine g_st (cs' := [.sc (.int .i64 ((vWid 7 x1).fType)), .sc (.bool (vWid 7 x1).fDup), .sc (.int .i64 ((vWid 7 x1).fQos)), .sc (.bool (vWid 7 x1).fRetain), .sc (.int .i64 ((vWid 7 x1).fId)), .sc (.string ((vWid 7 x1).fTopic)), x11, .sc (.string ((vWid 7 x1).fClient)), .sc (.int .i64 ((vWid 7 x1).fLevel)), .sc (.bool (vWid 7 x1).fClean), .sc (.int .i64 ((vWid 7 x1).fKeep)), .sc (.bool (vWid 7 x1).fHasWill), .sc (.string ((vWid 7 x1).fWTopic)), x12, .sc (.int .i64 ((vWid 7 x1).fWQos)), .sc (.bool (vWid 7 x1).fWRetain), .sc (.bool (vWid 7 x1).fHasUser), .sc (.string ((vWid 7 x1).fUser)), .sc (.bool (vWid 7 x1).fHasPass), x13, .sc (.int .i64 ((vWid 7 x1).fCode)), .sc (.bool (vWid 7 x1).fPresent), x14, x15, x16]) s17 (.there (.there (.there (.there (.there (.there (.there (.there (.here))))))))) (cells_agg (lf_c rfl (lf_c rfl (lf_c rfl (lf_c rfl (lf_c rfl (lf_c rfl (lf_c lx11 (lf_c rfl (lf_c rfl (lf_c rfl (lf_c rfl (lf_c rfl (lf_c rfl (lf_c lx12 (lf_c rfl (lf_c rfl (lf_c rfl (lf_c rfl (lf_c rfl (lf_c lx13 (lf_c rfl (lf_c rfl (lf_c lx14 (lf_c lx15 (lf_c lx16 rfl)))))))))))))))))))))))))) rfl (Nat.le_of_ble_eq_true rfl) rfl fun H s18 => ?_
  refine g_ldW s18 (.here) rfl ?_
  refine g_ret (ret_tup s18 rfl (.own (.there (.there (.there (.there (.there (.there (.there (.here)))))))) (.agg ⟨_, rfl, rfl⟩ (.sc (.sc (.sc (.sc (.sc (.sc (.own (.there (.there (.there (.there (.there (.there (.here))))))) (.sc (.sc (.sc (.sc (.sc (.sc (.own (.there (.there (.there (.there (.there (.here)))))) (.sc (.sc (.sc (.sc (.sc (.own (.there (.there (.there (.there (.here))))) (.sc (.sc (.own (.there (.there (.there (.here)))) (.own (.there (.there (.here))) (.own (.there (.here)) .nil))))))))))))))))))))))))) .nil)) ⟨(okW_le (okI6 (keepI x1 x0)) (by decide)), ⟨(okAg ⟨_, rfl, rfl⟩ ⟨trivial, ⟨trivial, ⟨trivial, ⟨trivial, ⟨trivial, ⟨trivial, ⟨(okW_le (okB6 ((vWid 7 x1).fBody)) (by decide)), ⟨trivial, ⟨trivial, ⟨trivial, ⟨trivial, ⟨trivial, ⟨trivial, ⟨(okW_le (okB6 ((vWid 7 x1).fWBody)) (by decide)), ⟨trivial, ⟨trivial, ⟨trivial, ⟨trivial, ⟨trivial, ⟨(okW_le (okB6 ((vWid 7 x1).fPass)) (by decide)), ⟨trivial, ⟨trivial, ⟨(okW_le (okRWant ((vWid 7 x1).fWants)) (by decide)), ⟨(okW_le (okS6 ((vWid 7 x1).fNames)) (by decide)), ⟨(okW_le (okI6 ((vWid 7 x1).fCodes)) (by decide)), trivial⟩⟩⟩⟩⟩⟩⟩⟩⟩⟩⟩⟩⟩⟩⟩⟩⟩⟩⟩⟩⟩⟩⟩⟩⟩), trivial⟩⟩) ?_
  have e : vInRel x0 x1 = (keepI x1 x0) := by
   clear s0 s2 s4 s6 s8' s8 s17 s18
   first | (unfold vInRel; simp only [h7, if_true, if_false, Bool.false_eq_true]; done) | (unfold vInRel; simp [keepI, h7]; done)
  rw [e]
  first | done | rfl
 ·refine g_cF h7 ?_
  refine g_ld (c := .sc (.int .i64 x1)) s6 (.there (.there (.here))) rfl ?_
  have c19 := implWid7F (n + 1) (by omega) x1
  refine g_callA s6 rfl (.cons .sc (.cons .sc .nil)) (c19) ⟨_, rfl, rfl⟩ (insPacket (vWid 7 x1)) ?_
  rintro _ _ H ⟨x20, x21, x22, x23, x24, x25, lx20, lx21, lx22, lx23, lx24, lx25, rfl, rfl⟩ s26
  simp only [List.nil_append, List.cons_append] at s26
  refine g_st (cs' := [.sc (.int .i64 ((vWid 7 x1).fType)), .sc (.bool (vWid 7 x1).fDup), .sc (.int .i64 ((vWid 7 x1).fQos)), .sc (.bool (vWid 7 x1).fRetain), .sc (.int .i64 ((vWid 7 x1).fId)), .sc (.string ((vWid 7 x1).fTopic)), x20, .sc (.string ((vWid 7 x1).fClient)), .sc (.int .i64 ((vWid 7 x1).fLevel)), .sc (.bool (vWid 7 x1).fClean), .sc (.int .i64 ((vWid 7 x1).fKeep)), .sc (.bool (vWid 7 x1).fHasWill), .sc (.string ((vWid 7 x1).fWTopic)), x21, .sc (.int .i64 ((vWid 7 x1).fWQos)), .sc (.bool (vWid 7 x1).fWRetain), .sc (.bool (vWid 7 x1).fHasUser), .sc (.string ((vWid 7 x1).fUser)), .sc (.bool (vWid 7 x1).fHasPass), x22, .sc (.int .i64 ((vWid 7 x1).fCode)), .sc (.bool (vWid 7 x1).fPresent), x23, x24, x25]) s26 (.there (.there (.there (.there (.there (.there (.there (.here)))))))) (cells_agg (lf_c rfl (lf_c rfl (lf_c rfl (lf_c rfl (lf_c rfl (lf_c rfl (lf_c lx20 (lf_c rfl (lf_c rfl (lf_c rfl (lf_c rfl (lf_c rfl (lf_c rfl (lf_c lx21 (lf_c rfl (lf_c rfl (lf_c rfl (lf_c rfl (lf_c rfl (lf_c lx22 (lf_c rfl (lf_c rfl (lf_c lx23 (lf_c lx24 (lf_c lx25 rfl)))))))))))))))))))))))))) rfl (Nat.le_of_ble_eq_true rfl) rfl fun H s27 => ?_
  refine g_ldW s27 (.here) rfl ?_
  refine g_ret (ret_tup s27 rfl (.own (.there (.there (.there (.there (.there (.there (.there (.here)))))))) (.agg ⟨_, rfl, rfl⟩ (.sc (.sc (.sc (.sc (.sc (.sc (.own (.there (.there (.there (.there (.there (.there (.here))))))) (.sc (.sc (.sc (.sc (.sc (.sc (.own (.there (.there (.there (.there (.there (.here)))))) (.sc (.sc (.sc (.sc (.sc (.own (.there (.there (.there (.there (.here))))) (.sc (.sc (.own (.there (.there (.there (.here)))) (.own (.there (.there (.here))) (.own (.there (.here)) .nil))))))))))))))))))))))))) .nil)) ⟨(okW_le (okI6 x0) (by decide)), ⟨(okAg ⟨_, rfl, rfl⟩ ⟨trivial, ⟨trivial, ⟨trivial, ⟨trivial, ⟨trivial, ⟨trivial, ⟨(okW_le (okB6 ((vWid 7 x1).fBody)) (by decide)), ⟨trivial, ⟨trivial, ⟨trivial, ⟨trivial, ⟨trivial, ⟨trivial, ⟨(okW_le (okB6 ((vWid 7 x1).fWBody)) (by decide)), ⟨trivial, ⟨trivial, ⟨trivial, ⟨trivial, ⟨trivial, ⟨(okW_le (okB6 ((vWid 7 x1).fPass)) (by decide)), ⟨trivial, ⟨trivial, ⟨(okW_le (okRWant ((vWid 7 x1).fWants)) (by decide)), ⟨(okW_le (okS6 ((vWid 7 x1).fNames)) (by decide)), ⟨(okW_le (okI6 ((vWid 7 x1).fCodes)) (by decide)), trivial⟩⟩⟩⟩⟩⟩⟩⟩⟩⟩⟩⟩⟩⟩⟩⟩⟩⟩⟩⟩⟩⟩⟩⟩⟩), trivial⟩⟩) ?_
  have e : vInRel x0 x1 = x0 := by
   clear s0 s2 s4 s6 s26 s27
   first | (unfold vInRel; simp only [h7, if_true, if_false, Bool.false_eq_true]; done) | (unfold vInRel; simp [keepI, h7]; done)
  rw [e]
  first | done | rfl
theorem specF_InRel_l0 (n : Nat) (hn : 1048576 < n) (x0 : List Int) (x1 : Int) (k0 : x0.length ≤ 9223372036854775807 ∧ ∀ z ∈ x0, okI z) (k1 : okI x1) (b0 : x0.length ≤ 1048576) (h3 : (vInOk x0) = true)  : ∀ (t pre : List Int) (m : Nat) (i : Int) (i1 : Nat) (a3 : AV) (H : Heap), x0 = pre ++ t → i = ((pre.length : Nat) : Int) → t.length < m → isLeaf a3 = true → Sep H [.own a3 22 (intsC (keepI x1 pre)), .blk i1 [.sc (.int .i64 0), .sc (.bool false), .sc (.int .i64 0), .sc (.bool false), .sc (.int .i64 0), .sc (.string (⟨#[]⟩)), .nl, .sc (.string (⟨#[]⟩)), .sc (.int .i64 0), .sc (.bool false), .sc (.int .i64 0), .sc (.bool false), .sc (.string (⟨#[]⟩)), .nl, .sc (.int .i64 0), .sc (.bool false), .sc (.bool false), .sc (.string (⟨#[]⟩)), .sc (.bool false), .nl, .sc (.int .i64 0), .sc (.bool false), .nl, .nl, .nl] true] → Gd (· = some (.tup [intsC (vInRel x0 x1), .agg (encPacket (vWid 7 x1))])) (f5_l0 (PR (n + 5) AV) (n + 5) (fun x H => ownTree ti0 E0.tp 28 H x) m (intsC x0) (.sc (.int .i64 x1)) (.ptr i1 0) (a3) (.sc (.int .i64 i)) H)
 | [], pre, m + 1, i, i1, a3, H, he, hi, hm, la3, s0 => by
  obtain rfl : x0 = pre := by simpa using he
  have hkl := keepI_len x1 x0
  rw [f5_l0]
  try simp only [PR_box, PR_new, PR_newSl, PR_fadr, PR_load, PR_store, PR_bin, PR_binB, PR_binA, PR_un, PR_cond, PR_guard, PR_pick, PR_len, PR_lenS, PR_iadr, PR_idx, PR_slice, PR_sliceS, PR_fill, PR_make, PR_app, PR_appS, PR_cvI, PR_cvSS, PR_cvBS, PR_cvSB, PR_extr, PR_nil, PR_clear, PR_fld, PR_apart, PR_same]
  refine g_len ?_
  refine g_lss ?_
  refine g_cF (by simp [hi]) ?_
  have c201 := specWid7F (n + 1) (by omega) x1
  refine g_callA s0 rfl (.cons .sc (.cons .sc .nil)) (c201) ⟨_, rfl, rfl⟩ (insPacket (vWid 7 x1)) ?_
  rintro _ _ H ⟨x202, x203, x204, x205, x206, x207, lx202, lx203, lx204, lx205, lx206, lx207, rfl, rfl⟩ s208
  simp only [List.nil_append, List.cons_append] at s208
  refine g_st (cs' := [.sc (.int .i64 ((vWid 7 x1).fType)), .sc (.bool (vWid 7 x1).fDup), .sc (.int .i64 ((vWid 7 x1).fQos)), .sc (.bool (vWid 7 x1).fRetain), .sc (.int .i64 ((vWid 7 x1).fId)), .sc (.string ((vWid 7 x1).fTopic)), x202, .sc (.string ((vWid 7 x1).fClient)), .sc (.int .i64 ((vWid 7 x1).fLevel)), .sc (.bool (vWid 7 x1).fClean), .sc (.int .i64 ((vWid 7 x1).fKeep)), .sc (.bool (vWid 7 x1).fHasWill), .sc (.string ((vWid 7 x1).fWTopic)), x203, .sc (.int .i64 ((vWid 7 x1).fWQos)), .sc (.bool (vWid 7 x1).fWRetain), .sc (.bool (vWid 7 x1).fHasUser), .sc (.string ((vWid 7 x1).fUser)), .sc (.bool (vWid 7 x1).fHasPass), x204, .sc (.int .i64 ((vWid 7 x1).fCode)), .sc (.bool (vWid 7 x1).fPresent), x205, x206, x207]) s208 (.there (.there (.there (.there (.there (.there (.there (.here)))))))) (cells_agg (lf_c rfl (lf_c rfl (lf_c rfl (lf_c rfl (lf_c rfl (lf_c rfl (lf_c lx202 (lf_c rfl (lf_c rfl (lf_c rfl (lf_c rfl (lf_c rfl (lf_c rfl (lf_c lx203 (lf_c rfl (lf_c rfl (lf_c rfl (lf_c rfl (lf_c rfl (lf_c lx204 (lf_c rfl (lf_c rfl (lf_c lx205 (lf_c lx206 (lf_c lx207 rfl)))))))))))))))))))))))))) rfl (Nat.le_of_ble_eq_true rfl) rfl fun H s209 => ?_
  refine g_ldW s209 (.here) rfl ?_
  refine g_ret (ret_tup s209 rfl (.own (.there (.there (.there (.there (.there (.there (.there (.here)))))))) (.agg ⟨_, rfl, rfl⟩ (.sc (.sc (.sc (.sc (.sc (.sc (.own (.there (.there (.there (.there (.there (.there (.here))))))) (.sc (.sc (.sc (.sc (.sc (.sc (.own (.there (.there (.there (.there (.there (.here)))))) (.sc (.sc (.sc (.sc (.sc (.own (.there (.there (.there (.there (.here))))) (.sc (.sc (.own (.there (.there (.there (.here)))) (.own (.there (.there (.here))) (.own (.there (.here)) .nil))))))))))))))))))))))))) .nil)) ⟨(okW_le (okI6 (keepI x1 x0)) (by decide)), ⟨(okAg ⟨_, rfl, rfl⟩ ⟨trivial, ⟨trivial, ⟨trivial, ⟨trivial, ⟨trivial, ⟨trivial, ⟨(okW_le (okB6 ((vWid 7 x1).fBody)) (by decide)), ⟨trivial, ⟨trivial, ⟨trivial, ⟨trivial, ⟨trivial, ⟨trivial, ⟨(okW_le (okB6 ((vWid 7 x1).fWBody)) (by decide)), ⟨trivial, ⟨trivial, ⟨trivial, ⟨trivial, ⟨trivial, ⟨(okW_le (okB6 ((vWid 7 x1).fPass)) (by decide)), ⟨trivial, ⟨trivial, ⟨(okW_le (okRWant ((vWid 7 x1).fWants)) (by decide)), ⟨(okW_le (okS6 ((vWid 7 x1).fNames)) (by decide)), ⟨(okW_le (okI6 ((vWid 7 x1).fCodes)) (by decide)), trivial⟩⟩⟩⟩⟩⟩⟩⟩⟩⟩⟩⟩⟩⟩⟩⟩⟩⟩⟩⟩⟩⟩⟩⟩⟩), trivial⟩⟩) ?_
  have e : vInRel x0 x1 = (keepI x1 x0) := by
   clear s0 s208 s209
   first | (unfold vInRel; simp only [h3, if_true, if_false, Bool.false_eq_true]; done) | (unfold vInRel; simp [keepI, h3]; done)
  rw [e]
  first | done | rfl
 | y :: t, pre, m + 1, i, i1, a3, H, he, hi, hm, la3, s0 => by
  have hlt : pre.length < x0.length := by rw [he]; simp
  have hkl := keepI_len x1 pre
  rw [f5_l0]
  try simp only [PR_box, PR_new, PR_newSl, PR_fadr, PR_load, PR_store, PR_bin, PR_binB, PR_binA, PR_un, PR_cond, PR_guard, PR_pick, PR_len, PR_lenS, PR_iadr, PR_idx, PR_slice, PR_sliceS, PR_fill, PR_make, PR_app, PR_appS, PR_cvI, PR_cvSS, PR_cvBS, PR_cvSB, PR_extr, PR_nil, PR_clear, PR_fld, PR_apart, PR_same]
  refine g_len ?_
  refine g_lss ?_
  refine g_cT (by simp [hi]; omega) ?_
  refine ints_iadr hi he ?_
  refine g_ldR (c := .sc (.int .i64 y)) rfl ?_
  refine g_neq ?_
  refine w_split ((decide (y = x1))) (fun h201 => ?_) (fun h201 => ?_)
  ·refine g_cF (nF h201) ?_
   refine g_add (by omega) (by omega) ?_
   have e202 : (keepI x1 (pre ++ [y])) = (keepI x1 pre) := by
    clear s0
    try simp only [decide_eq_true_eq, decide_eq_false_iff_not, bne_iff_ne, beq_iff_eq, beq_eq_false_iff_ne] at h3 h201
    simp only [keepI, List.filter_append, List.filter_cons, List.filter_nil, decide_true, decide_false, Bool.not_true, Bool.not_false, if_true, if_false, Bool.false_eq_true, List.append_nil, h3, h201, if_true, if_false, Bool.false_eq_true]
    first | done | rfl
   exact specF_InRel_l0 n hn x0 x1 k0 k1 b0 h3  t (pre ++ [y]) m _ i1 a3 _ (by rw [he]; simp) (by rw [hi]; simp) (by simpa using hm) la3 (by rw [e202]; exact (s0.sel (.cons (.here) (.cons (.here) .nil))))
  ·refine g_cT (nT h201) ?_
   refine ints_iadr hi he ?_
   refine g_ldR (c := .sc (.int .i64 y)) rfl ?_
   refine g_fill (cs := [.sc (.int .i64 y)]) rfl ?_
   refine g_newSl s0 fun i203 H s204 => ?_
   refine g_appI1 s204 (.there (.here)) (.here) ⟨_, _, rfl, rfl, rfl, rfl⟩ rfl (by first | omega | (simp only [List.length_map]; omega)) fun x205 H lx205 s206 => ?_
   refine g_add (by omega) (by omega) ?_
   have e207 : (keepI x1 (pre ++ [y])) = ((keepI x1 pre) ++ [y]) := by
    clear s0 s204 s206
    try simp only [decide_eq_true_eq, decide_eq_false_iff_not, bne_iff_ne, beq_iff_eq, beq_eq_false_iff_ne] at h3 h201
    simp only [keepI, List.filter_append, List.filter_cons, List.filter_nil, decide_true, decide_false, Bool.not_true, Bool.not_false, if_true, if_false, Bool.false_eq_true, List.append_nil, h3, h201, if_true, if_false, Bool.false_eq_true]
    first | done | rfl
   exact specF_InRel_l0 n hn x0 x1 k0 k1 b0 h3  t (pre ++ [y]) m _ i1 x205 _ (by rw [he]; simp) (by rw [hi]; simp) (by simpa using hm) lx205 (by rw [e207]; exact (s206.sel (.cons (.here) (.cons (.here) .nil))))
theorem specF_InRel (n : Nat) (hn : 1048576 < n) (x0 : List Int) (x1 : Int) (k0 : x0.length ≤ 9223372036854775807 ∧ ∀ z ∈ x0, okI z) (k1 : okI x1) (b0 : x0.length ≤ 1048576) : tree E0 (n + 6) 28 5 [intsC x0, .sc (.int .i64 x1)] = some (.tup [intsC (vInRel x0 x1), .agg (encPacket (vWid 7 x1))]) := by
 rw [tree_def, f5_eq, f5]
 refine tree_gd (G := (· = some (.tup [intsC (vInRel x0 x1), .agg (encPacket (vWid 7 x1))]))) ?_
 try simp only [PR_box, PR_new, PR_newSl, PR_fadr, PR_load, PR_store, PR_bin, PR_binB, PR_binA, PR_un, PR_cond, PR_guard, PR_pick, PR_len, PR_lenS, PR_iadr, PR_idx, PR_slice, PR_sliceS, PR_fill, PR_make, PR_app, PR_appS, PR_cvI, PR_cvSS, PR_cvBS, PR_cvSB, PR_extr, PR_nil, PR_clear, PR_fld, PR_apart, PR_same]
 have s0 : Sep [] [] := sep_nil
 refine g_new s0 fun i1 H s2 => ?_
 refine g_callS (v := (.bool (vInOk x0))) s2 rfl (.cons .ro .nil) (specInF (n + 1) (by omega) _ x0 b0) ?_
 refine g_not ?_
 refine w_split ((vInOk x0)) (fun h3 => ?_) (fun h3 => ?_)
 ·refine g_cF (nF h3) ?_
  have s4 := s2.nl (ty := 22) ⟨_, _, rfl, rfl⟩
  exact specF_InRel_l0 n hn x0 x1 k0 k1 b0 h3  x0 [] _ 0 i1 .nl _ rfl rfl (by omega) rfl s4
 ·refine g_cT (nT h3) ?_
  refine g_copyI (ty := 22) s2 ⟨_, _, rfl, rfl, rfl, rfl⟩ rfl (by omega) fun x5 H lx5 s6 => ?_
  have c7 := specWid7F (n + 1) (by omega) x1
  refine g_callA s6 rfl (.cons .sc (.cons .sc .nil)) (c7) ⟨_, rfl, rfl⟩ (insPacket (vWid 7 x1)) ?_
  rintro _ _ H ⟨x8, x9, x10, x11, x12, x13, lx8, lx9, lx10, lx11, lx12, lx13, rfl, rfl⟩ s14
  simp only [List.nil_append, List.cons_append] at s14
  refine g_st (cs' := [.sc (.int .i64 ((vWid 7 x1).fType)), .sc (.bool (vWid 7 x1).fDup), .sc (.int .i64 ((vWid 7 x1).fQos)), .sc (.bool (vWid 7 x1).fRetain), .sc (.int .i64 ((vWid 7 x1).fId)), .sc (.string ((vWid 7 x1).fTopic)), x8, .sc (.string ((vWid 7 x1).fClient)), .sc (.int .i64 ((vWid 7 x1).fLevel)), .sc (.bool (vWid 7 x1).fClean), .sc (.int .i64 ((vWid 7 x1).fKeep)), .sc (.bool (vWid 7 x1).fHasWill), .sc (.string ((vWid 7 x1).fWTopic)), x9, .sc (.int .i64 ((vWid 7 x1).fWQos)), .sc (.bool (vWid 7 x1).fWRetain), .sc (.bool (vWid 7 x1).fHasUser), .sc (.string ((vWid 7 x1).fUser)), .sc (.bool (vWid 7 x1).fHasPass), x10, .sc (.int .i64 ((vWid 7 x1).fCode)), .sc (.bool (vWid 7 x1).fPresent), x11, x12, x13]) s14 (.there (.there (.there (.there (.there (.there (.there (.here)))))))) (cells_agg (lf_c rfl (lf_c rfl (lf_c rfl (lf_c rfl (lf_c rfl (lf_c rfl (lf_c lx8 (lf_c rfl (lf_c rfl (lf_c rfl (lf_c rfl (lf_c rfl (lf_c rfl (lf_c lx9 (lf_c rfl (lf_c rfl (lf_c rfl (lf_c rfl (lf_c rfl (lf_c lx10 (lf_c rfl (lf_c rfl (lf_c lx11 (lf_c lx12 (lf_c lx13 rfl)))))))))))))))))))))))))) rfl (Nat.le_of_ble_eq_true rfl) rfl fun H s15 => ?_
  refine g_ldW s15 (.here) rfl ?_
  refine g_ret (ret_tup s15 rfl (.own (.there (.there (.there (.there (.there (.there (.there (.here)))))))) (.agg ⟨_, rfl, rfl⟩ (.sc (.sc (.sc (.sc (.sc (.sc (.own (.there (.there (.there (.there (.there (.there (.here))))))) (.sc (.sc (.sc (.sc (.sc (.sc (.own (.there (.there (.there (.there (.there (.here)))))) (.sc (.sc (.sc (.sc (.sc (.own (.there (.there (.there (.there (.here))))) (.sc (.sc (.own (.there (.there (.there (.here)))) (.own (.there (.there (.here))) (.own (.there (.here)) .nil))))))))))))))))))))))))) .nil)) ⟨(okW_le (okI6 x0) (by decide)), ⟨(okAg ⟨_, rfl, rfl⟩ ⟨trivial, ⟨trivial, ⟨trivial, ⟨trivial, ⟨trivial, ⟨trivial, ⟨(okW_le (okB6 ((vWid 7 x1).fBody)) (by decide)), ⟨trivial, ⟨trivial, ⟨trivial, ⟨trivial, ⟨trivial, ⟨trivial, ⟨(okW_le (okB6 ((vWid 7 x1).fWBody)) (by decide)), ⟨trivial, ⟨trivial, ⟨trivial, ⟨trivial, ⟨trivial, ⟨(okW_le (okB6 ((vWid 7 x1).fPass)) (by decide)), ⟨trivial, ⟨trivial, ⟨(okW_le (okRWant ((vWid 7 x1).fWants)) (by decide)), ⟨(okW_le (okS6 ((vWid 7 x1).fNames)) (by decide)), ⟨(okW_le (okI6 ((vWid 7 x1).fCodes)) (by decide)), trivial⟩⟩⟩⟩⟩⟩⟩⟩⟩⟩⟩⟩⟩⟩⟩⟩⟩⟩⟩⟩⟩⟩⟩⟩⟩), trivial⟩⟩) ?_
  have e : vInRel x0 x1 = x0 := by
   clear s0 s2 s6 s14 s15
   first | (unfold vInRel; simp only [h3, if_true, if_false, Bool.false_eq_true]; done) | (unfold vInRel; simp [keepI, h3]; done)
  rw [e]
  first | done | rfl
theorem inRel_len (x0 : List Int) (x1 : Int) (b0 : x0.length ≤ 1048576) : (vInRel x0 x1).length ≤ 1048576 := by
 unfold vInRel
 split
 ·exact Nat.le_trans (keepI_len _ _) b0
 ·exact b0
theorem resF_InRel_0 (x0 : List Int) (x1 : Int) (b0 : x0.length ≤ 1048576) : (vInRel x0 x1).length ≤ 1048576 ∧ (vInRel x0 x1).length ≤ 1048576 := ⟨inRel_len x0 x1 b0, inRel_len x0 x1 b0⟩
theorem resF_InRel_1 (x0 : List Int) (x1 : Int) (b0 : x0.length ≤ 1048576) : wtPacket (vWid 7 x1) ≤ 1048576 ∧ smPacket (vWid 7 x1) := by
 have e := wid_wt 7 x1
 exact ⟨by omega, smwPacket _ (by omega)⟩
theorem lw_lenR {β : Type} {r : Option β} {m : Nat} {cells : List AV} {A K : Option β} (hA : A = r) (h : m ≤ 1048576 → K = r) : (pLen (.ro m cells) fun t => pBin .gtr t (.sc (.int .i64 1048576)) fun t' => pCond t' A K) = r := by
 change Gd (· = r) _
 refine g_len ?_
 refine g_gtr ?_
 by_cases hm : (1048576 : Int) < m
 ·refine g_cT (decide_eq_true hm) hA
 ·refine g_cF (decide_eq_false hm) (h (by omega))
end Go.Proofs.YtejjggnchdldoaaDoor.Abs
set_option linter.unusedVariables false
set_option linter.unusedSimpArgs false
namespace Go.Proofs.YtejjggnchdldoaaDoor.Abs
open Go
theorem AtL.split {H : Heap} {ys : List AV} {N : Nat} {ts us : List Nat} {cs ds : List AV} (h : AtL H ys N (ts ++ us) (cs ++ ds)) (hl : ts.length = cs.length) : ∃ y1 y2, ys = y1 ++ y2 ∧ AtL H y1 N ts cs ∧ AtL H y2 (N + nbL cs) us ds := by
 obtain ⟨h1, h2, h3⟩ := h
 have e := instL_append (ti := ti0) (tp := E0.tp) ts cs us ds N hl
 rw [instL_nb] at e
 rw [e] at h1 h3
 rw [nbL_append] at h2
 have h4 := h3.right
 rw [instL_nb] at h4
 exact ⟨_, _, h1, ⟨rfl, by omega, h3.left⟩, ⟨rfl, by omega, h4⟩⟩
theorem AtL.own {d : Nat} {H : Heap} {ys : List AV} {N : Nat} {ts : List Nat} {cs : List AV} (h : AtL H ys N ts cs) (hok : okLW (okW ti0 E0.tp d) ts cs) : OwnC d H ts ys cs (List.range' N (nbL cs)) := by
 have := own_instL (fun ty t N h h' _ => own_inst d ty t N h h') ts cs N hok h.2.2 (instL_live _ _ _)
 rw [instL_nb, ← h.1] at this
 exact this
theorem kept_set {H : Heap} {i : Nat} {b : Blk} : Kept H (H.set i b) i 1 := ⟨by rw [List.length_set]; exact Nat.le_refl _, fun j b hj hd => by rw [List.getElem?_set_ne (by omega)]; exact hj⟩
theorem lm_store {β : Type} {r : Option β} {H : Heap} {w i : Nat} {z ys : List AV} {K : Heap → Option β} (hz : H[i]? = some ⟨z, true, true⟩) (hw : z.length = w) (hy : ys.length = w) (hl : ys.all isLeaf = true) (h : ∀ H', H'[i]? = some ⟨ys, true, true⟩ → Kept H H' i 1 → K H' = r) : pStore w (.ptr i 0) (.agg ys) H (fun H => K H) = r := by
 have hc : cellsA (.agg ys) = some ys := by
  show (if ys.all isLeaf then some ys else none) = _
  rw [if_pos hl]
 rw [st_at w i 0 _ ⟨z, true, true⟩ ys _ _ hz hc hy (by simp only [Nat.zero_add, hw]; exact Nat.le_refl _) rfl]
 have hs : splice z 0 ys = ys := by
  unfold splice
  rw [List.take_zero, List.nil_append, List.drop_of_length_le (by rw [hw, hy]; omega), List.append_nil]
 simp only [hs]
 exact h _ (by rw [List.getElem?_set_self (List.getElem?_eq_some_iff.1 hz).1]) kept_set
end Go.Proofs.YtejjggnchdldoaaDoor.Abs
namespace Go.Proofs.YtejjggnchdldoaaDoor.Abs
open Go
set_option linter.unusedVariables false
set_option linter.unusedSimpArgs false
theorem law_InRel (n : Nat) (hn : 1048576 < n) (x0 : List Int) (x1 : Int) (k0 : (x0.length ≤ 9223372036854775807 ∧ ∀ z ∈ x0, okI z)) (k1 : okI x1) : tree E0 (n + 30) 4 3 [intsC x0, .sc (.int .i64 x1)] = some (.sc (.bool true)) := by
 rw [tree_def, f3_eq, f3]
 simp only [PR_box, PR_new, PR_load, PR_store, PR_bin, PR_binB, PR_un, PR_cond, PR_lenS, PR_extr, PR_guard, PR_pick]
 refine lw_lenR (cells := x0.map fun z => .sc (.int .i64 z)) rfl fun b0 => ?_
 have c2 := cnt_ints (x0)
 have s1w : x0.length ≤ 1048576 := by omega
 have s1 := s1w
 have c3 := cnt_ints (vInRel x0 x1)
 obtain ⟨s4w, s4⟩ := resF_InRel_0 x0 x1 (by omega)
 have c5 := cntvPacket (vWid 7 x1)
 obtain ⟨s6w, s6⟩ := resF_InRel_1 x0 x1 (by omega)
 refine lm_tree rfl (vcons (Vw_ro _ _ _) vnil) (toF_IntS (n + 28) (by omega) x0 (by omega)) fun y10 X8 N7 n9 a11 => ?_
 refine lm_tup rfl (vcons (a11.vw (okW_flat (d := 6) (fun z : Int => .int .i64 z) tyIntS (x0))) (vcons (Vw_sc _ _) vnil)) (specF_InRel (n + 23) (by omega) x0 x1 k0 k1 (by omega)) rfl fun ys15 X13 N12 n14 a16 => ?_
 obtain ⟨y17, ys18, rfl, a19, a20⟩ := a16.cons
 obtain ⟨y21, ys22, rfl, a23, a24⟩ := a20.cons
 have nb25 : nbT (.agg (encPacket (vWid 7 x1))) = nbL (encPacket (vWid 7 x1)) := rfl
 obtain rfl := a24.nil
 refine lm_ex rfl ?_
 refine lm_ex rfl ?_
 obtain ⟨ys26, rfl, a27⟩ := a23.agg tyPacket
 refine lm_put rfl (a27.len.trans (lenPacket _)) (a27.leaf (flPacket _)) fun i29 i29E B28 => ?_
 have o30 : N12 + nbT (intsC (vInRel x0 x1)) ≤ i29 := by have := a19.2.1; omega
 have o31 : (N12 + nbT (intsC (vInRel x0 x1))) + nbL (encPacket (vWid 7 x1)) ≤ i29 := by have := a27.2.1; omega
 replace a19 := a19.grow [⟨ys26, true, true⟩]
 replace a27 := a27.grow [⟨ys26, true, true⟩]
 refine lm_tree rfl (vcons (Vw_ro _ _ _) vnil) (toF_IntS (n + 28) (by omega) x0 (by omega)) fun y35 X33 N32 n34 a36 => ?_
 have o37 : N12 + nbT (intsC (vInRel x0 x1)) ≤ N32 := by have := a19.2.1; omega
 have o38 : (N12 + nbT (intsC (vInRel x0 x1))) + nbL (encPacket (vWid 7 x1)) ≤ N32 := by have := a27.2.1; omega
 have o39 : i29 < N32 := by have := (List.getElem?_eq_some_iff.1 B28).1; omega
 replace a19 := a19.grow X33
 replace a27 := a27.grow X33
 replace B28 := blk_grow B28 X33
 refine lm_tup rfl (vcons (a36.vw (okW_flat (d := 6) (fun z : Int => .int .i64 z) tyIntS (x0))) (vcons (Vw_sc _ _) vnil)) (implF_InRel (n + 23) (by omega) x0 x1 k0 k1 (by omega)) rfl fun ys43 X41 N40 n42 a44 => ?_
 have o45 : N12 + nbT (intsC (vInRel x0 x1)) ≤ N40 := by have := a19.2.1; omega
 have o46 : (N12 + nbT (intsC (vInRel x0 x1))) + nbL (encPacket (vWid 7 x1)) ≤ N40 := by have := a27.2.1; omega
 have o47 : i29 < N40 := by have := (List.getElem?_eq_some_iff.1 B28).1; omega
 have o48 : N32 + nbT (intsC (x0)) ≤ N40 := by have := a36.2.1; omega
 replace a19 := a19.grow X41
 replace a27 := a27.grow X41
 replace B28 := blk_grow B28 X41
 replace a36 := a36.grow X41
 obtain ⟨y49, ys50, rfl, a51, a52⟩ := a44.cons
 obtain ⟨y53, ys54, rfl, a55, a56⟩ := a52.cons
 have nb57 : nbT (.agg (encPacket (vWid 7 x1))) = nbL (encPacket (vWid 7 x1)) := rfl
 obtain rfl := a56.nil
 refine lm_ex rfl ?_
 refine lm_ex rfl ?_
 obtain ⟨ys58, rfl, a59⟩ := a55.agg tyPacket
 refine lm_put rfl (a59.len.trans (lenPacket _)) (a59.leaf (flPacket _)) fun i61 i61E B60 => ?_
 have o62 : N12 + nbT (intsC (vInRel x0 x1)) ≤ i61 := by have := a19.2.1; omega
 have o63 : (N12 + nbT (intsC (vInRel x0 x1))) + nbL (encPacket (vWid 7 x1)) ≤ i61 := by have := a27.2.1; omega
 have o64 : i29 < i61 := by have := (List.getElem?_eq_some_iff.1 B28).1; omega
 have o65 : N32 + nbT (intsC (x0)) ≤ i61 := by have := a36.2.1; omega
 have o66 : N40 + nbT (intsC (vInRel x0 x1)) ≤ i61 := by have := a51.2.1; omega
 have o67 : (N40 + nbT (intsC (vInRel x0 x1))) + nbL (encPacket (vWid 7 x1)) ≤ i61 := by have := a59.2.1; omega
 replace a19 := a19.grow [⟨ys58, true, true⟩]
 replace a27 := a27.grow [⟨ys58, true, true⟩]
 replace B28 := blk_grow B28 [⟨ys58, true, true⟩]
 replace a36 := a36.grow [⟨ys58, true, true⟩]
 replace a51 := a51.grow [⟨ys58, true, true⟩]
 replace a59 := a59.grow [⟨ys58, true, true⟩]
 refine lm_eq rfl (vcons (a51.vw (okW_flat (d := 6) (fun z : Int => .int .i64 z) tyIntS (vInRel x0 x1))) (vcons (a19.vw (okW_flat (d := 6) (fun z : Int => .int .i64 z) tyIntS (vInRel x0 x1))) vnil)) (eqF_IntS (n + 28) (by omega) _ (vInRel x0 x1) s4w) ?_
 refine lm_not ?_
 refine lm_gf ?_
 refine lw_ld B60 (a59.len.trans (lenPacket _)) ?_
 refine lm_gf ?_
 refine lw_ld B28 (a27.len.trans (lenPacket _)) ?_
 refine lm_gf ?_
 refine lm_eq rfl (vcons (a59.vw (okWPacket 5 (vWid 7 x1))) (vcons (a27.vw (okWPacket 5 (vWid 7 x1))) vnil)) (eqF_Packet (n + 26) (by omega) _ (vWid 7 x1) s6w) ?_
 refine lm_gf ?_
 refine lm_not ?_
 refine lm_pk ?_
 refine lm_cf ?_
 refine lm_tree rfl (vcons (Vw_ro _ _ _) vnil) (toF_IntS (n + 28) (by omega) x0 (by omega)) fun y71 X69 N68 n70 a72 => ?_
 have o73 : N12 + nbT (intsC (vInRel x0 x1)) ≤ N68 := by have := a19.2.1; omega
 have o74 : (N12 + nbT (intsC (vInRel x0 x1))) + nbL (encPacket (vWid 7 x1)) ≤ N68 := by have := a27.2.1; omega
 have o75 : i29 < N68 := by have := (List.getElem?_eq_some_iff.1 B28).1; omega
 have o76 : N32 + nbT (intsC (x0)) ≤ N68 := by have := a36.2.1; omega
 have o77 : N40 + nbT (intsC (vInRel x0 x1)) ≤ N68 := by have := a51.2.1; omega
 have o78 : (N40 + nbT (intsC (vInRel x0 x1))) + nbL (encPacket (vWid 7 x1)) ≤ N68 := by have := a59.2.1; omega
 have o79 : i61 < N68 := by have := (List.getElem?_eq_some_iff.1 B60).1; omega
 replace a19 := a19.grow X69
 replace a27 := a27.grow X69
 replace B28 := blk_grow B28 X69
 replace a36 := a36.grow X69
 replace a51 := a51.grow X69
 replace a59 := a59.grow X69
 replace B60 := blk_grow B60 X69
 refine lm_eq rfl (vcons (a36.vw (okW_flat (d := 6) (fun z : Int => .int .i64 z) tyIntS (x0))) (vcons (a72.vw (okW_flat (d := 6) (fun z : Int => .int .i64 z) tyIntS (x0))) vnil)) (eqF_IntS (n + 28) (by omega) _ (x0) s1w) ?_
 refine lm_not ?_
 refine lm_cf ?_
 refine lm_mark (fs := mfIntS) (t := (intsC (x0))) (mk_IntS (n + 27) (by omega)) ⟨_, _, rfl⟩ a36 (wf_ints _ s1) (by omega) (by omega) fun G80 a82 q81 => ?_
 replace a19 := a19.kept q81 (by omega)
 replace a27 := a27.kept q81 (by omega)
 replace B28 := blk_kept B28 q81 (by omega)
 replace a51 := a51.kept q81 (by omega)
 replace a59 := a59.kept q81 (by omega)
 replace B60 := blk_kept B60 q81 (by omega)
 refine lm_neg (by omega) ?_
 refine lm_gf ?_
 refine lm_gf ?_
 refine lm_gf ?_
 refine lm_eq rfl (vcons (a51.vw (okW_flat (d := 6) (fun z : Int => .int .i64 z) tyIntS (vInRel x0 x1))) (vcons (a19.vw (okW_flat (d := 6) (fun z : Int => .int .i64 z) tyIntS (vInRel x0 x1))) vnil)) (eqF_IntS (n + 28) (by omega) _ (vInRel x0 x1) s4w) ?_
 refine lm_gf ?_
 refine lm_not ?_
 refine lm_pk ?_
 refine lm_gf ?_
 refine lw_ld B60 (a59.len.trans (lenPacket _)) ?_
 refine lm_gf ?_
 refine lw_ld B28 (a27.len.trans (lenPacket _)) ?_
 refine lm_gf ?_
 refine lm_eq rfl (vcons (a59.vw (okWPacket 5 (vWid 7 x1))) (vcons (a27.vw (okWPacket 5 (vWid 7 x1))) vnil)) (eqF_Packet (n + 26) (by omega) _ (vWid 7 x1) s6w) ?_
 refine lm_gf ?_
 refine lm_not ?_
 refine lm_pk ?_
 refine lm_cf ?_
 refine lm_mark (fs := mfIntS) (t := (intsC (vInRel x0 x1))) (mk_IntS (n + 27) (by omega)) ⟨_, _, rfl⟩ a51 (wf_ints _ s4) (by omega) (by omega) fun G83 a85 q84 => ?_
 replace a19 := a19.kept q84 (by omega)
 replace a27 := a27.kept q84 (by omega)
 replace B28 := blk_kept B28 q84 (by omega)
 replace a59 := a59.kept q84 (by omega)
 replace B60 := blk_kept B60 q84 (by omega)
 refine lw_ld B60 (a59.len.trans (lenPacket _)) ?_
 refine lm_markv (mk_PacketV (n + 26) (by omega)) rfl a59 (wfvPacket _ s6) (by omega) (by omega) fun G86 a88 q87 => ?_
 replace a19 := a19.kept q87 (by omega)
 replace a27 := a27.kept q87 (by omega)
 replace B28 := blk_kept B28 q87 (by omega)
 replace a85 := a85.kept q87 (by rw [mkF_nb]; omega)
 replace B60 := blk_kept B60 q87 (by omega)
 refine lm_held (fs := mfIntS) (t := (intsC (vInRel x0 x1))) (hd_IntS (n + 27) (by omega)) ⟨_, _, rfl⟩ (a85.vw (okW_mk 8 _ _ _ _ (okW_flat (d := 6) (fun z : Int => .int .i64 z) tyIntS (vInRel x0 x1)))) (wf_ints _ s4) (by omega) (by omega) ?_
 refine lw_ld B60 (a59.len.trans (lenPacket _)) ?_
 refine lm_heldv (hd_PacketV (n + 26) (by omega)) (a88.vw (okLW_mk7 _ _ (okWPacket 5 (vWid 7 x1)))) (wfvPacket _ s6) (by omega) (by omega) ?_
 refine lm_neI ?_
 refine lm_cf ?_
 refine lm_tree rfl (vcons (Vw_ro _ _ _) vnil) (toF_IntS (n + 28) (by omega) x0 (by omega)) fun y92 X90 N89 n91 a93 => ?_
 have o94 : N12 + nbT (intsC (vInRel x0 x1)) ≤ N89 := by have := a19.2.1; omega
 have o95 : (N12 + nbT (intsC (vInRel x0 x1))) + nbL (encPacket (vWid 7 x1)) ≤ N89 := by have := a27.2.1; omega
 have o96 : i29 < N89 := by have := (List.getElem?_eq_some_iff.1 B28).1; omega
 have o97 : N40 + nbT (intsC (vInRel x0 x1)) ≤ N89 := by have := a85.2.1; rw [mkF_nb] at this; omega
 have o98 : (N40 + nbT (intsC (vInRel x0 x1))) + nbL (encPacket (vWid 7 x1)) ≤ N89 := by have := a88.2.1; rw [mkL_nb] at this; omega
 have o99 : i61 < N89 := by have := (List.getElem?_eq_some_iff.1 B60).1; omega
 replace a19 := a19.grow X90
 replace a27 := a27.grow X90
 replace B28 := blk_grow B28 X90
 replace a85 := a85.grow X90
 replace a88 := a88.grow X90
 replace B60 := blk_grow B60 X90
 refine lm_tup rfl (vcons (a93.vw (okW_flat (d := 6) (fun z : Int => .int .i64 z) tyIntS (x0))) (vcons (Vw_sc _ _) vnil)) (implF_InRel (n + 23) (by omega) x0 x1 k0 k1 (by omega)) rfl fun ys103 X101 N100 n102 a104 => ?_
 have o105 : N12 + nbT (intsC (vInRel x0 x1)) ≤ N100 := by have := a19.2.1; omega
 have o106 : (N12 + nbT (intsC (vInRel x0 x1))) + nbL (encPacket (vWid 7 x1)) ≤ N100 := by have := a27.2.1; omega
 have o107 : i29 < N100 := by have := (List.getElem?_eq_some_iff.1 B28).1; omega
 have o108 : N40 + nbT (intsC (vInRel x0 x1)) ≤ N100 := by have := a85.2.1; rw [mkF_nb] at this; omega
 have o109 : (N40 + nbT (intsC (vInRel x0 x1))) + nbL (encPacket (vWid 7 x1)) ≤ N100 := by have := a88.2.1; rw [mkL_nb] at this; omega
 have o110 : i61 < N100 := by have := (List.getElem?_eq_some_iff.1 B60).1; omega
 replace a19 := a19.grow X101
 replace a27 := a27.grow X101
 replace B28 := blk_grow B28 X101
 replace a85 := a85.grow X101
 replace a88 := a88.grow X101
 replace B60 := blk_grow B60 X101
 obtain ⟨y111, ys112, rfl, a113, a114⟩ := a104.cons
 obtain ⟨y115, ys116, rfl, a117, a118⟩ := a114.cons
 have nb119 : nbT (.agg (encPacket (vWid 7 x1))) = nbL (encPacket (vWid 7 x1)) := rfl
 obtain rfl := a118.nil
 refine lm_ex rfl ?_
 refine lm_ex rfl ?_
 obtain ⟨ys120, rfl, a121⟩ := a117.agg tyPacket
 refine lm_put rfl (a121.len.trans (lenPacket _)) (a121.leaf (flPacket _)) fun i123 i123E B122 => ?_
 have o124 : N12 + nbT (intsC (vInRel x0 x1)) ≤ i123 := by have := a19.2.1; omega
 have o125 : (N12 + nbT (intsC (vInRel x0 x1))) + nbL (encPacket (vWid 7 x1)) ≤ i123 := by have := a27.2.1; omega
 have o126 : i29 < i123 := by have := (List.getElem?_eq_some_iff.1 B28).1; omega
 have o127 : N40 + nbT (intsC (vInRel x0 x1)) ≤ i123 := by have := a85.2.1; rw [mkF_nb] at this; omega
 have o128 : (N40 + nbT (intsC (vInRel x0 x1))) + nbL (encPacket (vWid 7 x1)) ≤ i123 := by have := a88.2.1; rw [mkL_nb] at this; omega
 have o129 : i61 < i123 := by have := (List.getElem?_eq_some_iff.1 B60).1; omega
 have o130 : N100 + nbT (intsC (vInRel x0 x1)) ≤ i123 := by have := a113.2.1; omega
 have o131 : (N100 + nbT (intsC (vInRel x0 x1))) + nbL (encPacket (vWid 7 x1)) ≤ i123 := by have := a121.2.1; omega
 replace a19 := a19.grow [⟨ys120, true, true⟩]
 replace a27 := a27.grow [⟨ys120, true, true⟩]
 replace B28 := blk_grow B28 [⟨ys120, true, true⟩]
 replace a85 := a85.grow [⟨ys120, true, true⟩]
 replace a88 := a88.grow [⟨ys120, true, true⟩]
 replace B60 := blk_grow B60 [⟨ys120, true, true⟩]
 replace a113 := a113.grow [⟨ys120, true, true⟩]
 replace a121 := a121.grow [⟨ys120, true, true⟩]
 refine lm_eq rfl (vcons (a113.vw (okW_flat (d := 6) (fun z : Int => .int .i64 z) tyIntS (vInRel x0 x1))) (vcons (a19.vw (okW_flat (d := 6) (fun z : Int => .int .i64 z) tyIntS (vInRel x0 x1))) vnil)) (eqF_IntS (n + 28) (by omega) _ (vInRel x0 x1) s4w) ?_
 refine lm_not ?_
 refine lm_gf ?_
 refine lw_ld B122 (a121.len.trans (lenPacket _)) ?_
 refine lm_gf ?_
 refine lw_ld B28 (a27.len.trans (lenPacket _)) ?_
 refine lm_gf ?_
 refine lm_eq rfl (vcons (a121.vw (okWPacket 5 (vWid 7 x1))) (vcons (a27.vw (okWPacket 5 (vWid 7 x1))) vnil)) (eqF_Packet (n + 26) (by omega) _ (vWid 7 x1) s6w) ?_
 refine lm_gf ?_
 refine lm_not ?_
 refine lm_pk ?_
 refine lm_cf ?_
 refine lm_held (fs := mfIntS) (t := (intsC (vInRel x0 x1))) (hd_IntS (n + 27) (by omega)) ⟨_, _, rfl⟩ (a85.vw (okW_mk 8 _ _ _ _ (okW_flat (d := 6) (fun z : Int => .int .i64 z) tyIntS (vInRel x0 x1)))) (wf_ints _ s4) (by omega) (by omega) ?_
 refine lw_ld B60 (a59.len.trans (lenPacket _)) ?_
 refine lm_heldv (hd_PacketV (n + 26) (by omega)) (a88.vw (okLW_mk7 _ _ (okWPacket 5 (vWid 7 x1)))) (wfvPacket _ s6) (by omega) (by omega) ?_
 refine lm_neI ?_
 refine lm_cf ?_
 rfl
end Go.Proofs.YtejjggnchdldoaaDoor.Abs
namespace Go.Proofs.YtejjggnchdldoaaDoor.fnExactInRel
open Go Go.Shelf Go.Lib Go.ChangeShapes Go.WideShapes Go.ChangeAt Go.RowKit
open Go.Proofs.YtejjggnchdldoaaDoor.Abs
set_option linter.unusedVariables false
theorem own : ownKnob Tryd.prog.godebug = none := by kernel_rfl
theorem laidOut : laidOutB Tryd.prog = true := by kernel_rfl
theorem types : ([22, 3].all (tyB ti0 14)) = true := by kernel_rfl
theorem readable : ([22, 3].all fun t => Tryd.prog.readableRec t && decide (t < Tryd.prog.types.size)) = true := by kernel_rfl
theorem pure_ {xs : List AV} (h : okAs ti0 14 [22, 3] xs) : ∃ n, tree E0 n 4 3 xs = some (.sc (.bool true)) := by
 obtain ⟨y0, ys0, rfl, ⟨cs0, h0, rfl⟩, h⟩ := h
 obtain ⟨y1, ys1, rfl, ⟨cs1, h1, rfl⟩, h⟩ := h
 obtain rfl := h
 obtain ⟨x0, rfl, k0⟩ := okT_ints' ⟨_, rfl, rfl, rfl, rfl, rfl, rfl⟩ h0
 obtain ⟨x1, rfl, k1⟩ := okT_int' h1
 exact ⟨_, law_InRel 1048577 (by omega) x0 x1 k0 k1⟩
def wArgs : Array Value := #[.slice none 0 0, .int .i64 0]
noncomputable def laidWorld (os : Os) : World :=
 let w0 := World.holding Tryd.prog os ⟨#[], #[], []⟩
 let put (h : Array Obj) (g : Nat) (cs : Array Value) : Array Obj := h.modify g fun
  | .cells _ t frozen => .cells cs t frozen
  | o => o
 let h1 := put w0.heap 0 (Lib.firstTab.map fun z => Value.int .u8 z).toArray
 let h2 := put h1 1 ((List.range 16).flatMap fun i => [Value.int .u8 (Lib.accLo i), Value.int .u8 (Lib.accHi i)]).toArray
 { w0 with heap := h2 }
theorem laid_met (os : Os) (args : Array Value) : laidMet Tryd.prog Rows.fnExactInRelRow.laid ((laidWorld os).forCall (fun _ _ => 0) ⟨#[], args, []⟩).memory :=
 (LaidIn.of_run (l := Rows.fnExactInRelRow.laid) [0, 1] 8 (by kernel_rfl) (by kernel_rfl) (by kernel_rfl) (by kernel_rfl)).met
set_option maxRecDepth 100000 in
theorem witness_row (os : Os) {H : Type} (enc : TypeId × Value → H) :
  (OpenSpec.ofChange Rows.fnExactInRelSpec).preRow enc Tryd.prog Tryd.f3 Rows.fnExactInRelRow.domain false Rows.fnExactInRelRow.laid ((laidWorld os).forCall (fun _ _ => 0) ⟨#[], wArgs, []⟩).memory wArgs := by
 have hw : ((DataW.whole enc Tryd.prog ((laidWorld os).forCall (fun _ _ => 0) ⟨#[], wArgs, []⟩).memory Tryd.f3.params.toList (OpenSpec.ofChange Rows.fnExactInRelSpec).vars false wArgs.toList 8).map (fun x => x.2.1)) = some [] := by kernel_rfl
 obtain ⟨⟨x1, x2, x3⟩, hx, hx1⟩ := Option.map_eq_some_iff.1 hw
 simp only at hx1
 subst hx1
 exact OpenSpec.preRow_of_cond 8 hx rfl (fun k hk => by cases hk) rfl (laid_met os _)
set_option maxRecDepth 100000 in
set_option maxHeartbeats 2000000 in
theorem lifted (os : Os) (started : os.Started) (H : Type) (enc : TypeId × Value → H) (F : Stop.Interp) :
  ReturnsInHanded {} Tryd.checked os 3 .any ((OpenSpec.ofChange Rows.fnExactInRelSpec).preRow enc Tryd.prog Tryd.f3 Rows.fnExactInRelRow.domain false Rows.fnExactInRelRow.laid) (((OpenSpec.ofChange Rows.fnExactInRelSpec).at F).post enc Tryd.prog Tryd.f3 false true false false) := by
 refine returnsInHanded_of_row (C := Tryd.checked) (s := OpenSpec.ofChange Rows.fnExactInRelSpec) own started (by kernel_rfl) Tryd.func3
  (witness_row_atRef (enc := enc) (C := Tryd.checked) false (laidWorld os) wArgs rfl (by kernel_rfl) (by kernel_rfl) (by kernel_rfl) (witness_row os enc)) ?_
 intro W base args ds gs before hval0 hW _ _ _ hL hS _
 have hval : ∀ (j : Nat) t v, Tryd.f3.params[j]? = some t → args[j]? = some v → Value.okWide Tryd.prog W .any base t v := hval0
 have hW' := hW
 obtain ⟨p, q, hA0, hV, rfl, hfz, hnd⟩ := hW
 have hA : DataW.TrodAll enc Tryd.prog W 0 (fun _ => true) true Tryd.f3.params.toList args.toList ds p := hA0
 rw [Tryd.params3] at hA hval
 obtain ⟨xs, hok, hl, hx⟩ := args_sound tabOk0 (n := 14) [22, 3] args.toList ds p hA (fun j t v ht hv => hval j t v (by simpa using ht) (by simpa using hv)) types
 obtain ⟨m, hm⟩ := pure_ hok
 have htab0 := utf8Tabs_of_readsT (U8Types.of196 Tryd.laysValid) ⟨by kernel_rfl, by kernel_rfl, by kernel_rfl, by kernel_rfl, by kernel_rfl, by kernel_rfl, by kernel_rfl⟩ (Pinned.utf8First_eq ▸ Lib.laidMet.reads hL (.tail _ (.head _))) (Lib.laidMet.reads hL (.head _))
 have htab : J0 W := ⟨htab0, cell_of_shapedOpen_int (zero := #[.int .i64 0]) hS (of_decide_eq_true (by kernel_rfl)) (by kernel_rfl) rfl (by kernel_rfl) (by kernel_rfl) Tryd.underlying3⟩
 have hc := tree_bool env0 hm (w := W) htab hl hx
 have hA1 := hA
 obtain ⟨v0, vs0, d0, ds0, p0, q0, hargs, rfl, rfl, g0, r0⟩ := trodAll_cons hA
 obtain ⟨v1, vs1, d1, ds1, p1, q1, rfl, rfl, rfl, g1, r1⟩ := trodAll_cons r0
 obtain ⟨rfl, rfl, rfl⟩ := trodAll_nil r1
 obtain ⟨rfl, rfl⟩ := trodVars_none hV
 have hc2 : Calls Tryd.prog 3 args W fun e W' => e = .returned (.bool true) ∧ Below W.heap.size W W' := by simpa using hc
 refine hc2.mono fun e W' ⟨he, bel⟩ => ?_
 subst he
 exact ⟨_, rfl, _, _, _, [], _, [], hW', trodAll_mk1 (shut_bool Tryd.underlying4 _), trodAll_stays laidOut bel readable hA1, rfl, bel.frame _, fun h => by cases h⟩
theorem over : Rows.FnExactInRelSaid :=
 OpenClaim.holds_of_cond 3 Tryd.f3 rfl rfl rfl rfl rfl rfl rfl ⟨rfl, rfl, rfl, rfl, rfl⟩ rfl rfl rfl rfl rfl (by kernel_rfl) Tryd.func3 (by kernel_rfl)
  (of_decide_eq_true (by kernel_rfl)) (by unfold Func.isWrapper; first | (rw [if_pos (by decide +kernel)]; kernel_rfl) | (rw [if_neg (by decide +kernel)]; exact ⟨rfl, rfl⟩))
  (fun os started H enc _ F0 => by rw [OpenClaim.pre_eq_preRow]; exact lifted os started H enc F0)
theorem proved : Rows.FnExactInRelCardSaid :=
 Claim7.holds_tied_plain_at .later [] [.data, .pinned] true (true, "1895ff4382d146d592babc2927af436ba3b9c299382109b0d72c9fbf782b4bc2") false
  over (fun _ h => by cases h) (by kernel_rfl) (fun _ h => by cases h) fnExactInRel_row_tie rfl ⟨rfl, rfl⟩ (by kernel_rfl) rfl
  (fun f fn hf hfn => by
   obtain rfl : f = 3 := Option.some.inj ((show Tryd.prog.funcNamed "loop.example/g00480/laws.FnExactInRel" = some 3 by kernel_rfl).symm.trans hf) |>.symm
   obtain rfl : fn = Tryd.f3 := (Option.some.inj (Tryd.func3.symm.trans hfn)).symm
   exact ⟨by kernel_rfl, fun j t ht => by
    rw [Tryd.params3] at ht
    have hm : t ∈ [22, 3] := by simpa using Array.mem_of_getElem? ht
    have hall : ([22, 3].all fun u => !Tryd.prog.wantsStandIn u) = true := by kernel_rfl
    exact (show Tryd.prog.wantsStandIn t = false by simpa using List.all_eq_true.1 hall t hm)⟩)
  (by kernel_rfl)
#print axioms proved
end Go.Proofs.YtejjggnchdldoaaDoor.fnExactInRel
namespace Go.Proofs.YtejjggnchdldoaaDoor
theorem fnExactInRel_holds : Rows.FnExactInRelCardSaid := fnExactInRel.proved
end Go.Proofs.YtejjggnchdldoaaDoor
