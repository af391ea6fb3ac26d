/- What the proof needs, part 6: a sound evaluator over trees, the program's functions on it, and what they come to. -/
import Derived.Test.YtlcpigdmekgajaaGreatDoorMre
import Derived.Test.YtlcpigdmekgajaaGreatDoorRows
import Derived.Test.YtlcpigdmekgajaaGreatDoorTie
import Derived.Test.YtlcpigdmekgajaaGreatDoorCards
import Derived.Lib.LaidIn
import Derived.Lib.LaidU8T
import Derived.PinnedBridge
import Derived.SevenTiedAt
import Derived.Deep.DeepHandedRow
import Derived.Deep.DeepWitnessRowRef
import Derived.WalkKit
import Derived.ProofKit
import Derived.OpenShut
import Derived.ShutString
import Derived.ChangeOld
import Derived.Below
import Derived.SizedLaws
set_option linter.unusedVariables false
set_option linter.unusedSimpArgs false
namespace Go.Proofs.YtlcpigdmekgajaaGreatDoor.Abs
open _root_.Option renaming map_eq_some_iff → zaG
open _root_.List renaming length_append → zad, nil_append → zal, length_singleton → zas, cons_append → zau
open _root_.ByteArray renaming size_extract → zao
section
open Go
theorem AtL.split {H : Ab} {ys : List AV} {N : Nat} {ts us : List Nat} {cs ds : List AV} (h : AtL H ys N (ts ++ us) (cs ++ ds)) (hl : ts.length = cs.length) : ∃ y1 y2, ys = y1 ++ y2 ∧ AtL H y1 N ts cs ∧ AtL H y2 (N + L6 cs) us ds := by
 obtain ⟨h1, h2, h3⟩ := h
 have e := N8 (ti := As) (tp := E0.tp) ts cs us ds N hl
 rw [Hv] at e
 rw [e] at h1 h3
 rw [Ww] at h2
 have h4 := h3.right
 rw [Hv] at h4
 exact ⟨_, _, h1, ⟨rfl, by omega, h3.left⟩, ⟨rfl, by omega, h4⟩⟩
theorem AtL.own {d : Nat} {H : Ab} {ys : List AV} {N : Nat} {ts : List Nat} {cs : List AV} (h : AtL H ys N ts cs) (hok : G7 (H8 As E0.tp d) ts cs) : OwnC d H ts ys cs (List.range' N (L6 cs)) := by
 have := Tg (fun ty t N h h' _ => Si d ty t N h h') ts cs N hok h.2.2 (Hu _ _ _)
 rw [Hv, ← h.1] at this
 exact this
end
end Go.Proofs.YtlcpigdmekgajaaGreatDoor.Abs
set_option maxRecDepth 100000
set_option maxHeartbeats 32000000
namespace Go.Proofs.YtlcpigdmekgajaaGreatDoor.Abs
open _root_.Option renaming map_eq_some_iff → zaG
open _root_.List renaming length_append → zad, nil_append → zal, length_singleton → zas, cons_append → zau
open _root_.ByteArray renaming size_extract → zao
section
open Go
theorem AcP (n : Nat) (hn : 1048576 < n) (B : ByteArray) (hB : B.size ≤ 2097152) : ∀ (f m : Nat) (a : Int) (l : List PacketV) (xl : AV) (H : Ab), f ≤ m → ((B.size : Nat) : Int) - a < 2 * f → (0 ≤ a ∧ a ≤ ((B.size : Nat) : Int)) → ((l.length : Nat) : Int) ≤ a → Bk xl = true → Sep H [.own xl 33 (Bt An l)] → Gd (· = some (.tup [Bt An (Xb B f a l).1, .sc (.int .i64 (Xb B f a l).2.1), .sc (.int .i64 (Xb B f a l).2.2)])) (S5 (PR (n + 13) AV) (n + 13) (fun x H => A8 As E0.tp 93 H x) m (Ad B) (xl) (.sc (.int .i64 a)) H)
 | 0, m, a, l, xl, H, hm, hM, h0, h1, lxl, s0 => by
  exfalso
  omega
 | f + 1, m + 1, a, l, xl, H, hm, hM, h0, h1, lxl, s0 => by
  rw [S5]
  try simp only [Fa, E9]
  refine Cu (Di (Aa ((decide (a < ((B.size : Nat) : Int)))) (fun h1 => ?_) fun h1 => ?_))
  have dh1 := of_decide_eq_true h1
  refine Ap h1 (Fs a ((B.size : Nat) : Int) rfl rfl (by omega) (by omega) (by omega) ?_)
  have z2 := zao (a := B) (b := a.toNat) (e := ((B.size : Nat) : Int).toNat)
  refine D3 s0 rfl (.cons .ro .nil) (AgU n (by omega) (B.extract a.toNat ((B.size : Nat) : Int).toNat) (by rw [zao]; omega)) rfl (AcQ ⟨_, rfl, rfl⟩ (J3 _) (Bd (Bd Dz))) ?_
  rintro _ _ H ⟨_, _, _, _, rfl, rfl, ⟨x3, x4, x5, x6, x7, x8, lx3, lx4, lx5, lx6, lx7, lx8, rfl, rfl⟩, ⟨_, rfl, ⟨_, rfl, ⟨rfl, rfl⟩⟩⟩⟩ s9
  simp only [zal, zau] at s9
  refine Bm (v := .agg [.sc (.int .i64 ((Ag (B.extract a.toNat ((B.size : Nat) : Int).toNat)).fType)), .sc (.bool (Ag (B.extract a.toNat ((B.size : Nat) : Int).toNat)).fDup), .sc (.int .i64 ((Ag (B.extract a.toNat ((B.size : Nat) : Int).toNat)).fQos)), .sc (.bool (Ag (B.extract a.toNat ((B.size : Nat) : Int).toNat)).fRetain), .sc (.int .i64 ((Ag (B.extract a.toNat ((B.size : Nat) : Int).toNat)).fId)), .sc (.string ((Ag (B.extract a.toNat ((B.size : Nat) : Int).toNat)).fTopic)), x3, .sc (.string ((Ag (B.extract a.toNat ((B.size : Nat) : Int).toNat)).fClient)), .sc (.int .i64 ((Ag (B.extract a.toNat ((B.size : Nat) : Int).toNat)).fLevel)), .sc (.bool (Ag (B.extract a.toNat ((B.size : Nat) : Int).toNat)).fClean), .sc (.int .i64 ((Ag (B.extract a.toNat ((B.size : Nat) : Int).toNat)).fKeep)), .sc (.bool (Ag (B.extract a.toNat ((B.size : Nat) : Int).toNat)).fHasWill), .sc (.string ((Ag (B.extract a.toNat ((B.size : Nat) : Int).toNat)).fWTopic)), x4, .sc (.int .i64 ((Ag (B.extract a.toNat ((B.size : Nat) : Int).toNat)).fWQos)), .sc (.bool (Ag (B.extract a.toNat ((B.size : Nat) : Int).toNat)).fWRetain), .sc (.bool (Ag (B.extract a.toNat ((B.size : Nat) : Int).toNat)).fHasUser), .sc (.string ((Ag (B.extract a.toNat ((B.size : Nat) : Int).toNat)).fUser)), .sc (.bool (Ag (B.extract a.toNat ((B.size : Nat) : Int).toNat)).fHasPass), x5, .sc (.int .i64 ((Ag (B.extract a.toNat ((B.size : Nat) : Int).toNat)).fCode)), .sc (.bool (Ag (B.extract a.toNat ((B.size : Nat) : Int).toNat)).fPresent), x6, x7, x8]) rfl (Bm (v := si (L0 (B.extract a.toNat ((B.size : Nat) : Int).toNat))) rfl (Bm (v := si (Nh (B.extract a.toNat ((B.size : Nat) : Int).toNat))) rfl (Ie s9 fun i10 H s11 => ?_)))
  refine B8 (cs' := [.sc (.int .i64 ((Ag (B.extract a.toNat ((B.size : Nat) : Int).toNat)).fType)), .sc (.bool (Ag (B.extract a.toNat ((B.size : Nat) : Int).toNat)).fDup), .sc (.int .i64 ((Ag (B.extract a.toNat ((B.size : Nat) : Int).toNat)).fQos)), .sc (.bool (Ag (B.extract a.toNat ((B.size : Nat) : Int).toNat)).fRetain), .sc (.int .i64 ((Ag (B.extract a.toNat ((B.size : Nat) : Int).toNat)).fId)), .sc (.string ((Ag (B.extract a.toNat ((B.size : Nat) : Int).toNat)).fTopic)), x3, .sc (.string ((Ag (B.extract a.toNat ((B.size : Nat) : Int).toNat)).fClient)), .sc (.int .i64 ((Ag (B.extract a.toNat ((B.size : Nat) : Int).toNat)).fLevel)), .sc (.bool (Ag (B.extract a.toNat ((B.size : Nat) : Int).toNat)).fClean), .sc (.int .i64 ((Ag (B.extract a.toNat ((B.size : Nat) : Int).toNat)).fKeep)), .sc (.bool (Ag (B.extract a.toNat ((B.size : Nat) : Int).toNat)).fHasWill), .sc (.string ((Ag (B.extract a.toNat ((B.size : Nat) : Int).toNat)).fWTopic)), x4, .sc (.int .i64 ((Ag (B.extract a.toNat ((B.size : Nat) : Int).toNat)).fWQos)), .sc (.bool (Ag (B.extract a.toNat ((B.size : Nat) : Int).toNat)).fWRetain), .sc (.bool (Ag (B.extract a.toNat ((B.size : Nat) : Int).toNat)).fHasUser), .sc (.string ((Ag (B.extract a.toNat ((B.size : Nat) : Int).toNat)).fUser)), .sc (.bool (Ag (B.extract a.toNat ((B.size : Nat) : Int).toNat)).fHasPass), x5, .sc (.int .i64 ((Ag (B.extract a.toNat ((B.size : Nat) : Int).toNat)).fCode)), .sc (.bool (Ag (B.extract a.toNat ((B.size : Nat) : Int).toNat)).fPresent), x6, x7, x8]) s11 (.here) (Ah (Ac rfl (Ac rfl (Ac rfl (Ac rfl (Ac rfl (Ac rfl (Ac lx3 (Ac rfl (Ac rfl (Ac rfl (Ac rfl (Ac rfl (Ac rfl (Ac lx4 (Ac rfl (Ac rfl (Ac rfl (Ac rfl (Ac rfl (Ac lx5 (Ac rfl (Ac rfl (Ac lx6 (Ac lx7 (Ac lx8 rfl)))))))))))))))))))))))))) rfl (Ca rfl) rfl fun H s12 => Ks (Aa ((decide ((Nh (B.extract a.toNat ((B.size : Nat) : Int).toNat)) = 0))) (fun h13 => ?_) fun h13 => ?_)
  have dh13 := of_decide_eq_true h13
  have hk := Zv dh13
  rw [Vf B h0] at hk
  refine Au (nF h13) (Aq s12 (.here) rfl ?_)
  refine Bb (cs := [.sc (.int .i64 ((Ag (B.extract a.toNat ((B.size : Nat) : Int).toNat)).fType)), .sc (.bool (Ag (B.extract a.toNat ((B.size : Nat) : Int).toNat)).fDup), .sc (.int .i64 ((Ag (B.extract a.toNat ((B.size : Nat) : Int).toNat)).fQos)), .sc (.bool (Ag (B.extract a.toNat ((B.size : Nat) : Int).toNat)).fRetain), .sc (.int .i64 ((Ag (B.extract a.toNat ((B.size : Nat) : Int).toNat)).fId)), .sc (.string ((Ag (B.extract a.toNat ((B.size : Nat) : Int).toNat)).fTopic)), x3, .sc (.string ((Ag (B.extract a.toNat ((B.size : Nat) : Int).toNat)).fClient)), .sc (.int .i64 ((Ag (B.extract a.toNat ((B.size : Nat) : Int).toNat)).fLevel)), .sc (.bool (Ag (B.extract a.toNat ((B.size : Nat) : Int).toNat)).fClean), .sc (.int .i64 ((Ag (B.extract a.toNat ((B.size : Nat) : Int).toNat)).fKeep)), .sc (.bool (Ag (B.extract a.toNat ((B.size : Nat) : Int).toNat)).fHasWill), .sc (.string ((Ag (B.extract a.toNat ((B.size : Nat) : Int).toNat)).fWTopic)), x4, .sc (.int .i64 ((Ag (B.extract a.toNat ((B.size : Nat) : Int).toNat)).fWQos)), .sc (.bool (Ag (B.extract a.toNat ((B.size : Nat) : Int).toNat)).fWRetain), .sc (.bool (Ag (B.extract a.toNat ((B.size : Nat) : Int).toNat)).fHasUser), .sc (.string ((Ag (B.extract a.toNat ((B.size : Nat) : Int).toNat)).fUser)), .sc (.bool (Ag (B.extract a.toNat ((B.size : Nat) : Int).toNat)).fHasPass), x5, .sc (.int .i64 ((Ag (B.extract a.toNat ((B.size : Nat) : Int).toNat)).fCode)), .sc (.bool (Ag (B.extract a.toNat ((B.size : Nat) : Int).toNat)).fPresent), x6, x7, x8]) (Jb (z' := [.sc (.int .i64 ((Ag (B.extract a.toNat ((B.size : Nat) : Int).toNat)).fType)), .sc (.bool (Ag (B.extract a.toNat ((B.size : Nat) : Int).toNat)).fDup), .sc (.int .i64 ((Ag (B.extract a.toNat ((B.size : Nat) : Int).toNat)).fQos)), .sc (.bool (Ag (B.extract a.toNat ((B.size : Nat) : Int).toNat)).fRetain), .sc (.int .i64 ((Ag (B.extract a.toNat ((B.size : Nat) : Int).toNat)).fId)), .sc (.string ((Ag (B.extract a.toNat ((B.size : Nat) : Int).toNat)).fTopic)), x3, .sc (.string ((Ag (B.extract a.toNat ((B.size : Nat) : Int).toNat)).fClient)), .sc (.int .i64 ((Ag (B.extract a.toNat ((B.size : Nat) : Int).toNat)).fLevel)), .sc (.bool (Ag (B.extract a.toNat ((B.size : Nat) : Int).toNat)).fClean), .sc (.int .i64 ((Ag (B.extract a.toNat ((B.size : Nat) : Int).toNat)).fKeep)), .sc (.bool (Ag (B.extract a.toNat ((B.size : Nat) : Int).toNat)).fHasWill), .sc (.string ((Ag (B.extract a.toNat ((B.size : Nat) : Int).toNat)).fWTopic)), x4, .sc (.int .i64 ((Ag (B.extract a.toNat ((B.size : Nat) : Int).toNat)).fWQos)), .sc (.bool (Ag (B.extract a.toNat ((B.size : Nat) : Int).toNat)).fWRetain), .sc (.bool (Ag (B.extract a.toNat ((B.size : Nat) : Int).toNat)).fHasUser), .sc (.string ((Ag (B.extract a.toNat ((B.size : Nat) : Int).toNat)).fUser)), .sc (.bool (Ag (B.extract a.toNat ((B.size : Nat) : Int).toNat)).fHasPass), x5, .sc (.int .i64 ((Ag (B.extract a.toNat ((B.size : Nat) : Int).toNat)).fCode)), .sc (.bool (Ag (B.extract a.toNat ((B.size : Nat) : Int).toNat)).fPresent), x6, x7, x8]) (Ah (Ac rfl (Ac rfl (Ac rfl (Ac rfl (Ac rfl (Ac rfl (Ac lx3 (Ac rfl (Ac rfl (Ac rfl (Ac rfl (Ac rfl (Ac rfl (Ac lx4 (Ac rfl (Ac rfl (Ac rfl (Ac rfl (Ac rfl (Ac lx5 (Ac rfl (Ac rfl (Ac lx6 (Ac lx7 (Ac lx8 rfl)))))))))))))))))))))))))) rfl (Ca rfl) rfl (rfl)) ?_
  refine B9 s12 fun i14 H s15 => ?_
  refine AcM (cty := [3, 4, 3, 4, 3, 9, 22, 9, 3, 4, 3, 4, 9, 22, 3, 4, 4, 9, 4, 22, 3, 4, 55, 56, 57]) (e := (⟨(Ag (B.extract a.toNat ((B.size : Nat) : Int).toNat)).fType, (Ag (B.extract a.toNat ((B.size : Nat) : Int).toNat)).fDup, (Ag (B.extract a.toNat ((B.size : Nat) : Int).toNat)).fQos, (Ag (B.extract a.toNat ((B.size : Nat) : Int).toNat)).fRetain, (Ag (B.extract a.toNat ((B.size : Nat) : Int).toNat)).fId, (Ag (B.extract a.toNat ((B.size : Nat) : Int).toNat)).fTopic, (Ag (B.extract a.toNat ((B.size : Nat) : Int).toNat)).fBody, (Ag (B.extract a.toNat ((B.size : Nat) : Int).toNat)).fClient, (Ag (B.extract a.toNat ((B.size : Nat) : Int).toNat)).fLevel, (Ag (B.extract a.toNat ((B.size : Nat) : Int).toNat)).fClean, (Ag (B.extract a.toNat ((B.size : Nat) : Int).toNat)).fKeep, (Ag (B.extract a.toNat ((B.size : Nat) : Int).toNat)).fHasWill, (Ag (B.extract a.toNat ((B.size : Nat) : Int).toNat)).fWTopic, (Ag (B.extract a.toNat ((B.size : Nat) : Int).toNat)).fWBody, (Ag (B.extract a.toNat ((B.size : Nat) : Int).toNat)).fWQos, (Ag (B.extract a.toNat ((B.size : Nat) : Int).toNat)).fWRetain, (Ag (B.extract a.toNat ((B.size : Nat) : Int).toNat)).fHasUser, (Ag (B.extract a.toNat ((B.size : Nat) : Int).toNat)).fUser, (Ag (B.extract a.toNat ((B.size : Nat) : Int).toNat)).fHasPass, (Ag (B.extract a.toNat ((B.size : Nat) : Int).toNat)).fPass, (Ag (B.extract a.toNat ((B.size : Nat) : Int).toNat)).fCode, (Ag (B.extract a.toNat ((B.size : Nat) : Int).toNat)).fPresent, ((Ag (B.extract a.toNat ((B.size : Nat) : Int).toNat)).fWants), (Ag (B.extract a.toNat ((B.size : Nat) : Int).toNat)).fNames, (Ag (B.extract a.toNat ((B.size : Nat) : Int).toNat)).fCodes⟩ : PacketV)) (k := 6) s15 ⟨_, _, rfl, rfl, rfl, rfl⟩ zP8 (.here) rfl (Ac rfl (Ac rfl (Ac rfl (Ac rfl (Ac rfl (Ac rfl (Ac lx3 (Ac rfl (Ac rfl (Ac rfl (Ac rfl (Ac rfl (Ac rfl (Ac lx4 (Ac rfl (Ac rfl (Ac rfl (Ac rfl (Ac rfl (Ac lx5 (Ac rfl (Ac rfl (Ac lx6 (Ac lx7 (Ac lx8 rfl))))))))))))))))))))))))) (Du (.own Yb (Du (.own Uz (G6 (.own Ma (.sc (.sc (.own L9 (.own C7 (.own Cn .nil))))))))))) (Dv ⟨(AeE ((Ag (B.extract a.toNat ((B.size : Nat) : Int).toNat)).fBody)), (Dv ⟨(AeE ((Ag (B.extract a.toNat ((B.size : Nat) : Int).toNat)).fWBody)), (Hb ⟨(AeE ((Ag (B.extract a.toNat ((B.size : Nat) : Int).toNat)).fPass)), (E8 ⟨(AaQ ((Ag (B.extract a.toNat ((B.size : Nat) : Int).toNat)).fWants)), ⟨(AmR ((Ag (B.extract a.toNat ((B.size : Nat) : Int).toNat)).fNames)), ⟨(AmQ ((Ag (B.extract a.toNat ((B.size : Nat) : Int).toNat)).fCodes)), trivial⟩⟩⟩)⟩)⟩)⟩) rfl (by omega) Ge rfl rfl rfl rfl (Cx ((Ag (B.extract a.toNat ((B.size : Nat) : Int).toNat)).fBody)) fun x16 H lx16 s17 => ?_
  refine Bw (by omega) (by omega) ?_
  have e : Xb B (f + 1) a l = Xb B f (a + (L0 (B.extract a.toNat ((B.size : Nat) : Int).toNat))) (l ++ [Ag (B.extract a.toNat ((B.size : Nat) : Int).toNat)]) := by
   simp only [Cs] at h1 h13
   rw [Xb, if_pos h1, if_pos h13]
  rw [e]
  have s18 := s17.forget (.here)
  exact AcP n hn B hB f m (a + (L0 (B.extract a.toNat ((B.size : Nat) : Int).toNat))) (l ++ [Ag (B.extract a.toNat ((B.size : Nat) : Int).toNat)]) x16 _ (by omega) (by omega) (by omega) (by simp only [zad, zas]; omega) lx16 (s18.sel (.cons (.here) .nil))
  have dh13 := of_decide_eq_false h13
  refine Ap (nT h13) (Al (B0 s12 rfl (.own zP7 (.sc (.sc .nil))) ⟨(Bs (Lh l) (by decide)), (E8 trivial)⟩) ?_)
  have e : Xb B (f + 1) a l = (l, (Nh (B.extract a.toNat ((B.size : Nat) : Int).toNat)), a) := by
   simp only [Cs] at h1 h13
   rw [Xb, if_pos h1, if_neg h13]
  rw [e]
  have dh1 := of_decide_eq_false h1
  refine Au h1 (Al (B0 s0 rfl (.own (.here) (.sc (.sc .nil))) ⟨(Bs (Lh l) (by decide)), (E8 trivial)⟩) ?_)
  have e : Xb B (f + 1) a l = (l, 0, a) := by
   simp only [Cs] at h1
   rw [Xb, if_neg h1]
  rw [e]
theorem Adi (n : Nat) (hn : 1048576 < n) (B : ByteArray) (hB : B.size ≤ 2097152) : ∀ (f m : Nat) (a : Int) (l : List PacketV) (xl : AV) (H : Ab), f ≤ m → ((B.size : Nat) : Int) - a < 2 * f → (0 ≤ a ∧ a ≤ ((B.size : Nat) : Int)) → ((l.length : Nat) : Int) ≤ a → Bk xl = true → Sep H [.own xl 33 (Bt An l)] → Gd (· = some (.tup [Bt An (Xb B f a l).1, .sc (.int .i64 (Xb B f a l).2.1)])) (S4 (PR (n + 13) AV) (n + 13) (fun x H => A8 As E0.tp 68 H x) m (Ad B) (xl) (.sc (.int .i64 a)) H)
 | 0, m, a, l, xl, H, hm, hM, h0, h1, lxl, s0 => by
  exfalso
  omega
 | f + 1, m + 1, a, l, xl, H, hm, hM, h0, h1, lxl, s0 => by
  rw [S4]
  try simp only [Fa, E9]
  refine Cu (Di (Aa ((decide (a < ((B.size : Nat) : Int)))) (fun h1 => ?_) fun h1 => ?_))
  have dh1 := of_decide_eq_true h1
  refine Ap h1 (Fs a ((B.size : Nat) : Int) rfl rfl (by omega) (by omega) (by omega) ?_)
  have z2 := zao (a := B) (b := a.toNat) (e := ((B.size : Nat) : Int).toNat)
  refine D3 s0 rfl (.cons .ro .nil) (Ah1 n (by omega) (B.extract a.toNat ((B.size : Nat) : Int).toNat) (by rw [zao]; omega)) rfl (AcQ ⟨_, rfl, rfl⟩ (J3 _) (Bd (Bd Dz))) ?_
  rintro _ _ H ⟨_, _, _, _, rfl, rfl, ⟨x3, x4, x5, x6, x7, x8, lx3, lx4, lx5, lx6, lx7, lx8, rfl, rfl⟩, ⟨_, rfl, ⟨_, rfl, ⟨rfl, rfl⟩⟩⟩⟩ s9
  simp only [zal, zau] at s9
  refine Bm (v := .agg [.sc (.int .i64 ((Ag (B.extract a.toNat ((B.size : Nat) : Int).toNat)).fType)), .sc (.bool (Ag (B.extract a.toNat ((B.size : Nat) : Int).toNat)).fDup), .sc (.int .i64 ((Ag (B.extract a.toNat ((B.size : Nat) : Int).toNat)).fQos)), .sc (.bool (Ag (B.extract a.toNat ((B.size : Nat) : Int).toNat)).fRetain), .sc (.int .i64 ((Ag (B.extract a.toNat ((B.size : Nat) : Int).toNat)).fId)), .sc (.string ((Ag (B.extract a.toNat ((B.size : Nat) : Int).toNat)).fTopic)), x3, .sc (.string ((Ag (B.extract a.toNat ((B.size : Nat) : Int).toNat)).fClient)), .sc (.int .i64 ((Ag (B.extract a.toNat ((B.size : Nat) : Int).toNat)).fLevel)), .sc (.bool (Ag (B.extract a.toNat ((B.size : Nat) : Int).toNat)).fClean), .sc (.int .i64 ((Ag (B.extract a.toNat ((B.size : Nat) : Int).toNat)).fKeep)), .sc (.bool (Ag (B.extract a.toNat ((B.size : Nat) : Int).toNat)).fHasWill), .sc (.string ((Ag (B.extract a.toNat ((B.size : Nat) : Int).toNat)).fWTopic)), x4, .sc (.int .i64 ((Ag (B.extract a.toNat ((B.size : Nat) : Int).toNat)).fWQos)), .sc (.bool (Ag (B.extract a.toNat ((B.size : Nat) : Int).toNat)).fWRetain), .sc (.bool (Ag (B.extract a.toNat ((B.size : Nat) : Int).toNat)).fHasUser), .sc (.string ((Ag (B.extract a.toNat ((B.size : Nat) : Int).toNat)).fUser)), .sc (.bool (Ag (B.extract a.toNat ((B.size : Nat) : Int).toNat)).fHasPass), x5, .sc (.int .i64 ((Ag (B.extract a.toNat ((B.size : Nat) : Int).toNat)).fCode)), .sc (.bool (Ag (B.extract a.toNat ((B.size : Nat) : Int).toNat)).fPresent), x6, x7, x8]) rfl (Bm (v := si (L0 (B.extract a.toNat ((B.size : Nat) : Int).toNat))) rfl (Bm (v := si (Nh (B.extract a.toNat ((B.size : Nat) : Int).toNat))) rfl (Ie s9 fun i10 H s11 => ?_)))
  refine B8 (cs' := [.sc (.int .i64 ((Ag (B.extract a.toNat ((B.size : Nat) : Int).toNat)).fType)), .sc (.bool (Ag (B.extract a.toNat ((B.size : Nat) : Int).toNat)).fDup), .sc (.int .i64 ((Ag (B.extract a.toNat ((B.size : Nat) : Int).toNat)).fQos)), .sc (.bool (Ag (B.extract a.toNat ((B.size : Nat) : Int).toNat)).fRetain), .sc (.int .i64 ((Ag (B.extract a.toNat ((B.size : Nat) : Int).toNat)).fId)), .sc (.string ((Ag (B.extract a.toNat ((B.size : Nat) : Int).toNat)).fTopic)), x3, .sc (.string ((Ag (B.extract a.toNat ((B.size : Nat) : Int).toNat)).fClient)), .sc (.int .i64 ((Ag (B.extract a.toNat ((B.size : Nat) : Int).toNat)).fLevel)), .sc (.bool (Ag (B.extract a.toNat ((B.size : Nat) : Int).toNat)).fClean), .sc (.int .i64 ((Ag (B.extract a.toNat ((B.size : Nat) : Int).toNat)).fKeep)), .sc (.bool (Ag (B.extract a.toNat ((B.size : Nat) : Int).toNat)).fHasWill), .sc (.string ((Ag (B.extract a.toNat ((B.size : Nat) : Int).toNat)).fWTopic)), x4, .sc (.int .i64 ((Ag (B.extract a.toNat ((B.size : Nat) : Int).toNat)).fWQos)), .sc (.bool (Ag (B.extract a.toNat ((B.size : Nat) : Int).toNat)).fWRetain), .sc (.bool (Ag (B.extract a.toNat ((B.size : Nat) : Int).toNat)).fHasUser), .sc (.string ((Ag (B.extract a.toNat ((B.size : Nat) : Int).toNat)).fUser)), .sc (.bool (Ag (B.extract a.toNat ((B.size : Nat) : Int).toNat)).fHasPass), x5, .sc (.int .i64 ((Ag (B.extract a.toNat ((B.size : Nat) : Int).toNat)).fCode)), .sc (.bool (Ag (B.extract a.toNat ((B.size : Nat) : Int).toNat)).fPresent), x6, x7, x8]) s11 (.here) (Ah (Ac rfl (Ac rfl (Ac rfl (Ac rfl (Ac rfl (Ac rfl (Ac lx3 (Ac rfl (Ac rfl (Ac rfl (Ac rfl (Ac rfl (Ac rfl (Ac lx4 (Ac rfl (Ac rfl (Ac rfl (Ac rfl (Ac rfl (Ac lx5 (Ac rfl (Ac rfl (Ac lx6 (Ac lx7 (Ac lx8 rfl)))))))))))))))))))))))))) rfl (Ca rfl) rfl fun H s12 => Ks (Aa ((decide ((Nh (B.extract a.toNat ((B.size : Nat) : Int).toNat)) = 0))) (fun h13 => ?_) fun h13 => ?_)
  have dh13 := of_decide_eq_true h13
  have hk := Zv dh13
  rw [Vf B h0] at hk
  refine Au (nF h13) (Aq s12 (.here) rfl ?_)
  refine Bb (cs := [.sc (.int .i64 ((Ag (B.extract a.toNat ((B.size : Nat) : Int).toNat)).fType)), .sc (.bool (Ag (B.extract a.toNat ((B.size : Nat) : Int).toNat)).fDup), .sc (.int .i64 ((Ag (B.extract a.toNat ((B.size : Nat) : Int).toNat)).fQos)), .sc (.bool (Ag (B.extract a.toNat ((B.size : Nat) : Int).toNat)).fRetain), .sc (.int .i64 ((Ag (B.extract a.toNat ((B.size : Nat) : Int).toNat)).fId)), .sc (.string ((Ag (B.extract a.toNat ((B.size : Nat) : Int).toNat)).fTopic)), x3, .sc (.string ((Ag (B.extract a.toNat ((B.size : Nat) : Int).toNat)).fClient)), .sc (.int .i64 ((Ag (B.extract a.toNat ((B.size : Nat) : Int).toNat)).fLevel)), .sc (.bool (Ag (B.extract a.toNat ((B.size : Nat) : Int).toNat)).fClean), .sc (.int .i64 ((Ag (B.extract a.toNat ((B.size : Nat) : Int).toNat)).fKeep)), .sc (.bool (Ag (B.extract a.toNat ((B.size : Nat) : Int).toNat)).fHasWill), .sc (.string ((Ag (B.extract a.toNat ((B.size : Nat) : Int).toNat)).fWTopic)), x4, .sc (.int .i64 ((Ag (B.extract a.toNat ((B.size : Nat) : Int).toNat)).fWQos)), .sc (.bool (Ag (B.extract a.toNat ((B.size : Nat) : Int).toNat)).fWRetain), .sc (.bool (Ag (B.extract a.toNat ((B.size : Nat) : Int).toNat)).fHasUser), .sc (.string ((Ag (B.extract a.toNat ((B.size : Nat) : Int).toNat)).fUser)), .sc (.bool (Ag (B.extract a.toNat ((B.size : Nat) : Int).toNat)).fHasPass), x5, .sc (.int .i64 ((Ag (B.extract a.toNat ((B.size : Nat) : Int).toNat)).fCode)), .sc (.bool (Ag (B.extract a.toNat ((B.size : Nat) : Int).toNat)).fPresent), x6, x7, x8]) (Jb (z' := [.sc (.int .i64 ((Ag (B.extract a.toNat ((B.size : Nat) : Int).toNat)).fType)), .sc (.bool (Ag (B.extract a.toNat ((B.size : Nat) : Int).toNat)).fDup), .sc (.int .i64 ((Ag (B.extract a.toNat ((B.size : Nat) : Int).toNat)).fQos)), .sc (.bool (Ag (B.extract a.toNat ((B.size : Nat) : Int).toNat)).fRetain), .sc (.int .i64 ((Ag (B.extract a.toNat ((B.size : Nat) : Int).toNat)).fId)), .sc (.string ((Ag (B.extract a.toNat ((B.size : Nat) : Int).toNat)).fTopic)), x3, .sc (.string ((Ag (B.extract a.toNat ((B.size : Nat) : Int).toNat)).fClient)), .sc (.int .i64 ((Ag (B.extract a.toNat ((B.size : Nat) : Int).toNat)).fLevel)), .sc (.bool (Ag (B.extract a.toNat ((B.size : Nat) : Int).toNat)).fClean), .sc (.int .i64 ((Ag (B.extract a.toNat ((B.size : Nat) : Int).toNat)).fKeep)), .sc (.bool (Ag (B.extract a.toNat ((B.size : Nat) : Int).toNat)).fHasWill), .sc (.string ((Ag (B.extract a.toNat ((B.size : Nat) : Int).toNat)).fWTopic)), x4, .sc (.int .i64 ((Ag (B.extract a.toNat ((B.size : Nat) : Int).toNat)).fWQos)), .sc (.bool (Ag (B.extract a.toNat ((B.size : Nat) : Int).toNat)).fWRetain), .sc (.bool (Ag (B.extract a.toNat ((B.size : Nat) : Int).toNat)).fHasUser), .sc (.string ((Ag (B.extract a.toNat ((B.size : Nat) : Int).toNat)).fUser)), .sc (.bool (Ag (B.extract a.toNat ((B.size : Nat) : Int).toNat)).fHasPass), x5, .sc (.int .i64 ((Ag (B.extract a.toNat ((B.size : Nat) : Int).toNat)).fCode)), .sc (.bool (Ag (B.extract a.toNat ((B.size : Nat) : Int).toNat)).fPresent), x6, x7, x8]) (Ah (Ac rfl (Ac rfl (Ac rfl (Ac rfl (Ac rfl (Ac rfl (Ac lx3 (Ac rfl (Ac rfl (Ac rfl (Ac rfl (Ac rfl (Ac rfl (Ac lx4 (Ac rfl (Ac rfl (Ac rfl (Ac rfl (Ac rfl (Ac lx5 (Ac rfl (Ac rfl (Ac lx6 (Ac lx7 (Ac lx8 rfl)))))))))))))))))))))))))) rfl (Ca rfl) rfl (rfl)) ?_
  refine B9 s12 fun i14 H s15 => ?_
  refine AcM (cty := [3, 4, 3, 4, 3, 9, 22, 9, 3, 4, 3, 4, 9, 22, 3, 4, 4, 9, 4, 22, 3, 4, 55, 56, 57]) (e := (⟨(Ag (B.extract a.toNat ((B.size : Nat) : Int).toNat)).fType, (Ag (B.extract a.toNat ((B.size : Nat) : Int).toNat)).fDup, (Ag (B.extract a.toNat ((B.size : Nat) : Int).toNat)).fQos, (Ag (B.extract a.toNat ((B.size : Nat) : Int).toNat)).fRetain, (Ag (B.extract a.toNat ((B.size : Nat) : Int).toNat)).fId, (Ag (B.extract a.toNat ((B.size : Nat) : Int).toNat)).fTopic, (Ag (B.extract a.toNat ((B.size : Nat) : Int).toNat)).fBody, (Ag (B.extract a.toNat ((B.size : Nat) : Int).toNat)).fClient, (Ag (B.extract a.toNat ((B.size : Nat) : Int).toNat)).fLevel, (Ag (B.extract a.toNat ((B.size : Nat) : Int).toNat)).fClean, (Ag (B.extract a.toNat ((B.size : Nat) : Int).toNat)).fKeep, (Ag (B.extract a.toNat ((B.size : Nat) : Int).toNat)).fHasWill, (Ag (B.extract a.toNat ((B.size : Nat) : Int).toNat)).fWTopic, (Ag (B.extract a.toNat ((B.size : Nat) : Int).toNat)).fWBody, (Ag (B.extract a.toNat ((B.size : Nat) : Int).toNat)).fWQos, (Ag (B.extract a.toNat ((B.size : Nat) : Int).toNat)).fWRetain, (Ag (B.extract a.toNat ((B.size : Nat) : Int).toNat)).fHasUser, (Ag (B.extract a.toNat ((B.size : Nat) : Int).toNat)).fUser, (Ag (B.extract a.toNat ((B.size : Nat) : Int).toNat)).fHasPass, (Ag (B.extract a.toNat ((B.size : Nat) : Int).toNat)).fPass, (Ag (B.extract a.toNat ((B.size : Nat) : Int).toNat)).fCode, (Ag (B.extract a.toNat ((B.size : Nat) : Int).toNat)).fPresent, ((Ag (B.extract a.toNat ((B.size : Nat) : Int).toNat)).fWants), (Ag (B.extract a.toNat ((B.size : Nat) : Int).toNat)).fNames, (Ag (B.extract a.toNat ((B.size : Nat) : Int).toNat)).fCodes⟩ : PacketV)) (k := 6) s15 ⟨_, _, rfl, rfl, rfl, rfl⟩ zP8 (.here) rfl (Ac rfl (Ac rfl (Ac rfl (Ac rfl (Ac rfl (Ac rfl (Ac lx3 (Ac rfl (Ac rfl (Ac rfl (Ac rfl (Ac rfl (Ac rfl (Ac lx4 (Ac rfl (Ac rfl (Ac rfl (Ac rfl (Ac rfl (Ac lx5 (Ac rfl (Ac rfl (Ac lx6 (Ac lx7 (Ac lx8 rfl))))))))))))))))))))))))) (Du (.own Yb (Du (.own Uz (G6 (.own Ma (.sc (.sc (.own L9 (.own C7 (.own Cn .nil))))))))))) (Dv ⟨(AeE ((Ag (B.extract a.toNat ((B.size : Nat) : Int).toNat)).fBody)), (Dv ⟨(AeE ((Ag (B.extract a.toNat ((B.size : Nat) : Int).toNat)).fWBody)), (Hb ⟨(AeE ((Ag (B.extract a.toNat ((B.size : Nat) : Int).toNat)).fPass)), (E8 ⟨(AaQ ((Ag (B.extract a.toNat ((B.size : Nat) : Int).toNat)).fWants)), ⟨(AmR ((Ag (B.extract a.toNat ((B.size : Nat) : Int).toNat)).fNames)), ⟨(AmQ ((Ag (B.extract a.toNat ((B.size : Nat) : Int).toNat)).fCodes)), trivial⟩⟩⟩)⟩)⟩)⟩) rfl (by omega) Ge rfl rfl rfl rfl (Cx ((Ag (B.extract a.toNat ((B.size : Nat) : Int).toNat)).fBody)) fun x16 H lx16 s17 => ?_
  refine Bw (by omega) (by omega) ?_
  have e : Xb B (f + 1) a l = Xb B f (a + (L0 (B.extract a.toNat ((B.size : Nat) : Int).toNat))) (l ++ [Ag (B.extract a.toNat ((B.size : Nat) : Int).toNat)]) := by
   simp only [Cs] at h1 h13
   rw [Xb, if_pos h1, if_pos h13]
  rw [e]
  have s18 := s17.forget (.here)
  exact Adi n hn B hB f m (a + (L0 (B.extract a.toNat ((B.size : Nat) : Int).toNat))) (l ++ [Ag (B.extract a.toNat ((B.size : Nat) : Int).toNat)]) x16 _ (by omega) (by omega) (by omega) (by simp only [zad, zas]; omega) lx16 (s18.sel (.cons (.here) .nil))
  have dh13 := of_decide_eq_false h13
  refine Ap (nT h13) (Al (B0 s12 rfl (.own zP7 (.sc .nil)) ⟨(Bs (Lh l) (by decide)), ⟨trivial, trivial⟩⟩) ?_)
  have e : Xb B (f + 1) a l = (l, (Nh (B.extract a.toNat ((B.size : Nat) : Int).toNat)), a) := by
   simp only [Cs] at h1 h13
   rw [Xb, if_pos h1, if_neg h13]
  rw [e]
  have dh1 := of_decide_eq_false h1
  refine Au h1 (Al (B0 s0 rfl (.own (.here) (.sc .nil)) ⟨(Bs (Lh l) (by decide)), ⟨trivial, trivial⟩⟩) ?_)
  have e : Xb B (f + 1) a l = (l, 0, a) := by
   simp only [Cs] at h1
   rw [Xb, if_neg h1]
  rw [e]
theorem Ajl (n : Nat) (hn : 1048576 < n) (B : ByteArray) (hB : B.size ≤ 2097152) : C0 E0 (n + 14) 93 76 [Ad B] = some (.tup [Bt An (Hk B), .sc (.int .i64 (Aad B)), .sc (.int .i64 (Amg B))]) := by
 rw [A7, Alz, f76]
 refine Cm (G := (· = some (.tup [Bt An (Hk B), si (Aad B), si (Amg B)]))) ?_
 try simp only [Fa, E9]
 have s0 : Sep [] [] := Ch
 have s1 := s0.nl (ty := 33) ⟨_, _, rfl, rfl⟩
 exact AcP n hn B hB (B.size / 2 + 1) _ 0 [] .nl _ (by omega) (by omega) (by omega) (by simp) rfl s1
theorem AjK (n : Nat) (hn : 1048576 < n) (B : ByteArray) (hB : B.size ≤ 2097152) : C0 E0 (n + 14) 68 39 [Ad B] = some (.tup [Bt An (Hk B), .sc (.int .i64 (Aad B))]) := by
 rw [A7, Ala, f39]
 refine Cm (G := (· = some (.tup [Bt An (Hk B), si (Aad B)]))) ?_
 try simp only [Fa, E9]
 have s0 : Sep [] [] := Ch
 have s1 := s0.nl (ty := 33) ⟨_, _, rfl, rfl⟩
 exact Adi n hn B hB (B.size / 2 + 1) _ 0 [] .nl _ (by omega) (by omega) (by omega) (by simp) rfl s1
theorem Ae9 (n : Nat) (hn : 1048576 < n) (B : ByteArray) (hB : B.size ≤ 2097152) : C0 E0 (n + 15) 68 40 [Ad B] = some (.tup [Bt An (Hk B), .sc (.int .i64 (Aad B))]) := by
 rw [A7, Alb, f40]
 refine Cm (G := (· = some (.tup [Bt An (Hk B), si (Aad B)]))) ?_
 try simp only [Fa, E9]
 have s0 : Sep [] [] := Ch
 refine D3 s0 rfl (.cons .ro .nil) (Ajl n (by omega) B hB) rfl (Jd (ty := 33) rfl (Lh (Hk B)) (Bd (Bd Dz))) ?_
 rintro _ _ H ⟨x1, _, _, lx1, rfl, rfl, ⟨_, rfl, ⟨_, rfl, ⟨rfl, rfl⟩⟩⟩⟩ s2
 simp only [zal, zau] at s2
 refine Bm (v := x1) rfl (Bm (v := si (Aad B)) rfl (Bm (v := si (Amg B)) rfl (Al (B0 s2 rfl (.own (.here) (.sc .nil)) ⟨(Bs (Lh (Hk B)) (by decide)), ⟨trivial, trivial⟩⟩) ?_)))
 rfl
theorem X9 (n : Nat) (hn : 1048576 < n) (x0 : ByteArray) (k0 : okS x0) (b0 : x0.size ≤ 1048576) : C0 E0 (n + 15) 68 39 [Ad x0] = some (.tup [Bt An (Hk x0), .sc (.int .i64 (Aad x0))]) := AjK (n + 1) (by omega) x0 (by omega)
theorem Qt (n : Nat) (hn : 1048576 < n) (x0 : ByteArray) (k0 : okS x0) (b0 : x0.size ≤ 1048576) : C0 E0 (n + 15) 68 40 [Ad x0] = some (.tup [Bt An (Hk x0), .sc (.int .i64 (Aad x0))]) := Ae9 n (by omega) x0 (by omega)
theorem Xc (x0 : ByteArray) (b0 : x0.size ≤ 1048576) : P2 Co (Hk x0) ≤ 1048576 ∧ ((Hk x0).length ≤ 1048576 ∧ ∀ y ∈ Hk x0, Sq y) := have h : P2 Co (Hk x0) ≤ 1048576 := by have := AjP x0; omega
 ⟨h, AmY Sq AeK _ h⟩
end
end Go.Proofs.YtlcpigdmekgajaaGreatDoor.Abs
namespace Go.Proofs.YtlcpigdmekgajaaGreatDoor.Abs
open _root_.Option renaming map_eq_some_iff → zaG
open _root_.List renaming length_append → zad, nil_append → zal, length_singleton → zas, cons_append → zau
open _root_.ByteArray renaming size_extract → zao
open Go
set_option linter.unusedVariables false
set_option linter.unusedSimpArgs false
theorem AaG (n : Nat) (hn : 1048576 < n) (x0 : ByteArray) (k0 : okS x0) : C0 E0 (n + 30) 4 7 [Ad x0] = some (.sc (.bool true)) := by
 rw [A7, Amp, f7]
 simp only [Lm, Nt, Gg, I7, Ez, Is, Qr, Ee, H5, Acu, Fe, Pr.gT, Pr.gF, Pr.hT, Pr.hF, Pr.kT, Pr.kF, Gh]
 refine Ajv (cells := Bg x0) rfl fun b0 => ?_
 have c2 := P5 (x0)
 have s1w : x0.size ≤ 1048576 := by omega
 have s1 := s1w
 have c3 := Vc (fs := H6) (wt := Co) (Hk x0) (fun y _ => rfl) (fun y _ => Adt y)
 obtain ⟨s4w, s4⟩ := Xc x0 (by omega)
 refine Uo rfl (Ds (Id _ _ _) Iq) (Qm (n + 28) (by omega) x0 (by omega)) fun y8 X6 N5 n7 a9 => AbY rfl (Ds (a9.vw (Hn (d := 6) Ji (x0))) Iq) (X9 (n + 14) (by omega) x0 k0 (by omega)) rfl fun ys13 X11 N10 n12 a14 => ?_
 obtain ⟨y15, ys16, rfl, a17, a18⟩ := a14.cons
 obtain ⟨y19, ys20, rfl, a21, a22⟩ := a18.cons
 obtain rfl := a22.nil
 refine Yz rfl (Yz rfl ?_)
 obtain rfl := a21.sc
 refine Uo rfl (Ds (Id _ _ _) Iq) (Qm (n + 28) (by omega) x0 (by omega)) fun y26 X24 N23 n25 a27 => ?_
 have o28 : N10 + Ob (Bt An (Hk x0)) ≤ N23 := by have := a17.2.1; omega
 replace a17 := a17.grow X24
 refine AbY rfl (Ds (a27.vw (Hn (d := 6) Ji (x0))) Iq) (Qt (n + 14) (by omega) x0 k0 (by omega)) rfl fun ys32 X30 N29 n31 a33 => ?_
 have o34 : N10 + Ob (Bt An (Hk x0)) ≤ N29 := by have := a17.2.1; omega
 have o35 : N23 + Ob (Ad (x0)) ≤ N29 := by have := a27.2.1; omega
 replace a17 := a17.grow X30
 replace a27 := a27.grow X30
 obtain ⟨y36, ys37, rfl, a38, a39⟩ := a33.cons
 obtain ⟨y40, ys41, rfl, a42, a43⟩ := a39.cons
 obtain rfl := a43.nil
 refine Yz rfl (Yz rfl ?_)
 obtain rfl := a42.sc
 refine AcT rfl (Ds (a38.vw (Hi (d := 7) Ge I4 (H9 5) (Hk x0))) (Ds (a17.vw (Hi (d := 7) Ge I4 (H9 5) (Hk x0))) Iq)) (O6 (n + 25) (by omega) _ (Hk x0) s4w) (Z1 (M9 (M9 (M9 (Ws (AcW (Yy (Uo rfl (Ds (Id _ _ _) Iq) (Qm (n + 28) (by omega) x0 (by omega)) fun y47 X45 N44 n46 a48 => ?_))))))))
 have o49 : N10 + Ob (Bt An (Hk x0)) ≤ N44 := by have := a17.2.1; omega
 have o50 : N23 + Ob (Ad (x0)) ≤ N44 := by have := a27.2.1; omega
 have o51 : N29 + Ob (Bt An (Hk x0)) ≤ N44 := by have := a38.2.1; omega
 replace a17 := a17.grow X45
 replace a27 := a27.grow X45
 replace a38 := a38.grow X45
 refine AcT rfl (Ds (a27.vw (Hn (d := 6) Ji (x0))) (Ds (a48.vw (Hn (d := 6) Ji (x0))) Iq)) (P9 (n + 28) (by omega) _ (x0) s1w) (Z1 (Yy (AcV (fs := F6) (t := (Ad (x0))) (Sb (n + 27) (by omega)) ⟨_, _, rfl⟩ a27 (Sy _ s1) (by omega) (by omega) fun G52 a54 q53 => ?_)))
 replace a17 := a17.kept q53 (by omega)
 replace a38 := a38.kept q53 (by omega)
 refine AlN (by omega) (M9 (M9 (M9 (AcT rfl (Ds (a38.vw (Hi (d := 7) Ge I4 (H9 5) (Hk x0))) (Ds (a17.vw (Hi (d := 7) Ge I4 (H9 5) (Hk x0))) Iq)) (O6 (n + 25) (by omega) _ (Hk x0) s4w) (M9 (Z1 (AcW (M9 (M9 (M9 (Ws (AcW (Yy (AcV (fs := H6) (t := (Bt An (Hk x0))) (Acb (n + 26) (by omega)) ⟨_, _, rfl⟩ a38 (Ux _ s4.1 fun y hy => Xy y (s4.2 y hy)) (by omega) (by omega) fun G55 a57 q56 => ?_))))))))))))))
 replace a17 := a17.kept q56 (by omega)
 refine AcU (fs := H6) (t := (Bt An (Hk x0))) (Wk (n + 26) (by omega)) ⟨_, _, rfl⟩ (a57.vw (Acg 8 _ _ _ _ (Hi (d := 7) Ge I4 (H9 5) (Hk x0)))) (Ux _ s4.1 fun y hy => Xy y (s4.2 y hy)) (by omega) (by omega) (Ws (Yy (Uo rfl (Ds (Id _ _ _) Iq) (Qm (n + 28) (by omega) x0 (by omega)) fun y61 X59 N58 n60 a62 => ?_)))
 have o63 : N10 + Ob (Bt An (Hk x0)) ≤ N58 := by have := a17.2.1; omega
 have o64 : N29 + Ob (Bt An (Hk x0)) ≤ N58 := by have := a57.2.1; rw [Rc] at this; omega
 replace a17 := a17.grow X59
 replace a57 := a57.grow X59
 refine AbY rfl (Ds (a62.vw (Hn (d := 6) Ji (x0))) Iq) (Qt (n + 14) (by omega) x0 k0 (by omega)) rfl fun ys68 X66 N65 n67 a69 => ?_
 have o70 : N10 + Ob (Bt An (Hk x0)) ≤ N65 := by have := a17.2.1; omega
 have o71 : N29 + Ob (Bt An (Hk x0)) ≤ N65 := by have := a57.2.1; rw [Rc] at this; omega
 replace a17 := a17.grow X66
 replace a57 := a57.grow X66
 obtain ⟨y72, ys73, rfl, a74, a75⟩ := a69.cons
 obtain ⟨y76, ys77, rfl, a78, a79⟩ := a75.cons
 obtain rfl := a79.nil
 refine Yz rfl (Yz rfl ?_)
 obtain rfl := a78.sc
 refine AcT rfl (Ds (a74.vw (Hi (d := 7) Ge I4 (H9 5) (Hk x0))) (Ds (a17.vw (Hi (d := 7) Ge I4 (H9 5) (Hk x0))) Iq)) (O6 (n + 25) (by omega) _ (Hk x0) s4w) (Z1 (M9 (M9 (M9 (Ws (AcW (Yy (AcU (fs := H6) (t := (Bt An (Hk x0))) (Wk (n + 26) (by omega)) ⟨_, _, rfl⟩ (a57.vw (Acg 8 _ _ _ _ (Hi (d := 7) Ge I4 (H9 5) (Hk x0)))) (Ux _ s4.1 fun y hy => Xy y (s4.2 y hy)) (by omega) (by omega) (Ws (Yy ?_))))))))))
 rfl
end Go.Proofs.YtlcpigdmekgajaaGreatDoor.Abs
namespace Go.Proofs.YtlcpigdmekgajaaGreatDoor.fnExactReadAll
open _root_.Option renaming map_eq_some_iff → zaG
open Go Go.Shelf Go.Lib Go.ChangeShapes Go.WideShapes Go.ChangeAt Go.RowKit
open Go.Proofs.YtlcpigdmekgajaaGreatDoor.Abs
set_option linter.unusedVariables false
theorem own : ownKnob Tryz.prog.godebug = none := by kernel_rfl
theorem Ajq : laidOutB Tryz.prog = true := by kernel_rfl
theorem types : ([22].all (tyB As 14)) = true := by kernel_rfl
theorem Ahw : ([22].all fun t => Tryz.prog.readableRec t && decide (t < Tryz.prog.types.size)) = true := by kernel_rfl
theorem AmU {xs : List AV} (h : AlT As 14 [22] xs) : ∃ n, C0 E0 n 4 7 xs = some (.sc (.bool true)) := by
 obtain ⟨y0, ys0, rfl, ⟨cs0, h0, rfl⟩, h⟩ := h
 obtain rfl := h
 obtain ⟨x0, rfl, k0⟩ := Acf ⟨_, rfl, rfl, rfl, rfl, rfl, rfl⟩ h0
 exact ⟨_, AaG 1048577 (by omega) x0 k0⟩
def wArgs : Array Value := #[.slice none 0 0]
noncomputable def Qe (os : Os) : World :=
 let w0 := World.holding Tryz.prog os ⟨#[], #[], []⟩
 let put (h : Array Obj) (g : Nat) (cs : Array Value) : Array Obj := h.modify g fun
  | .cells _ t frozen => .cells cs t frozen
  | o => o
 let h1 := put w0.heap 0 (Lib.firstTab.map fun z => Value.int .u8 z).toArray
 let h2 := put h1 1 ((List.range 16).flatMap fun i => [Value.int .u8 (Lib.accLo i), Value.int .u8 (Lib.accHi i)]).toArray
 { w0 with heap := h2 }
theorem Ahb (os : Os) (args : Array Value) : laidMet Tryz.prog Rows.fnExactReadAllRow.laid ((Qe os).forCall (fun _ _ => 0) ⟨#[], args, []⟩).memory :=
 (LaidIn.of_run (l := Rows.fnExactReadAllRow.laid) [0, 1] 8 (by kernel_rfl) (by kernel_rfl) (by kernel_rfl) (by kernel_rfl)).met
set_option maxRecDepth 100000 in
theorem Abo (os : Os) {H : Type} (enc : TypeId × Value → H) :
  (OpenSpec.ofChange Rows.fnExactReadAllSpec).preRow enc Tryz.prog Tryz.f7 Rows.fnExactReadAllRow.domain false Rows.fnExactReadAllRow.laid ((Qe os).forCall (fun _ _ => 0) ⟨#[], wArgs, []⟩).memory wArgs := by
 have hw : ((DataW.whole enc Tryz.prog ((Qe os).forCall (fun _ _ => 0) ⟨#[], wArgs, []⟩).memory Tryz.f7.params.toList (OpenSpec.ofChange Rows.fnExactReadAllSpec).vars false wArgs.toList 8).map (fun x => x.2.1)) = some [] := by kernel_rfl
 obtain ⟨⟨x1, x2, x3⟩, hx, hx1⟩ := zaG.1 hw
 simp only at hx1
 subst hx1
 exact OpenSpec.preRow_of_cond 8 hx rfl (fun k hk => by cases hk) rfl (Ahb os _)
set_option maxRecDepth 100000 in
set_option maxHeartbeats 2000000 in
theorem lifted (os : Os) (started : os.Started) (H : Type) (enc : TypeId × Value → H) (F : Stop.Interp) :
  ReturnsInHanded {} Tryz.checked os 7 .any ((OpenSpec.ofChange Rows.fnExactReadAllSpec).preRow enc Tryz.prog Tryz.f7 Rows.fnExactReadAllRow.domain false Rows.fnExactReadAllRow.laid) (((OpenSpec.ofChange Rows.fnExactReadAllSpec).at F).post enc Tryz.prog Tryz.f7 false true false false) := by
 refine returnsInHanded_of_row (C := Tryz.checked) (s := OpenSpec.ofChange Rows.fnExactReadAllSpec) own started (by kernel_rfl) Tryz.func7
  (witness_row_atRef (enc := enc) (C := Tryz.checked) false (Qe os) wArgs rfl (by kernel_rfl) (by kernel_rfl) (by kernel_rfl) (Abo os enc)) ?_
 intro W base args ds gs before hval0 hW _ _ _ hL hS _
 have hval : ∀ (j : Nat) t v, Tryz.f7.params[j]? = some t → args[j]? = some v → Value.okWide Tryz.prog W .any base t v := hval0
 have hW' := hW
 obtain ⟨p, q, hA0, hV, rfl, hfz, hnd⟩ := hW
 have hA : DataW.TrodAll enc Tryz.prog W 0 (fun _ => true) true Tryz.f7.params.toList args.toList ds p := hA0
 rw [Tryz.params7] at hA hval
 obtain ⟨xs, hok, hl, hx⟩ := U2 Ah5 (n := 14) [22] args.toList ds p hA (fun j t v ht hv => hval j t v (by simpa using ht) (by simpa using hv)) types
 obtain ⟨m, hm⟩ := AmU hok
 have htab0 := utf8Tabs_of_readsT (U8Types.of196 Tryz.laysValid) ⟨by kernel_rfl, by kernel_rfl, by kernel_rfl, by kernel_rfl, by kernel_rfl, by kernel_rfl, by kernel_rfl⟩ (Pinned.utf8First_eq ▸ Lib.laidMet.reads hL (.tail _ (.head _))) (Lib.laidMet.reads hL (.head _))
 have htab : J0 W := ⟨htab0, cell_of_shapedOpen_int (zero := #[.int .i64 0]) hS (of_decide_eq_true (by kernel_rfl)) (by kernel_rfl) rfl (by kernel_rfl) (by kernel_rfl) Tryz.underlying3⟩
 have hc := AeO An5 hm (w := W) htab hl hx
 have hA1 := hA
 obtain ⟨v0, vs0, d0, ds0, p0, q0, hargs, rfl, rfl, g0, r0⟩ := trodAll_cons hA
 obtain ⟨rfl, rfl, rfl⟩ := trodAll_nil r0
 obtain ⟨rfl, rfl⟩ := trodVars_none hV
 have hc2 : Calls Tryz.prog 7 args W fun e W' => e = .returned (.bool true) ∧ Below W.heap.size W W' := by simpa using hc
 refine hc2.mono fun e W' ⟨he, bel⟩ => ?_
 subst he
 exact ⟨_, rfl, _, _, _, [], _, [], hW', trodAll_mk1 (shut_bool Tryz.underlying4 _), Qz Ajq bel Ahw hA1, rfl, bel.frame _, fun h => by cases h⟩
end Go.Proofs.YtlcpigdmekgajaaGreatDoor.fnExactReadAll
