/- What the proof needs, part 5: a sound evaluator over trees, the program's functions on it, and what they come to. -/
import Derived.Test.YtlcpigdmekgajaaGreatDoorMud
import Derived.Test.YtlcpigdmekgajaaGreatDoorRows
import Derived.Test.YtlcpigdmekgajaaGreatDoorTie
import Derived.Test.YtlcpigdmekgajaaGreatDoorCards
import Derived.Lib.LaidIn
import Derived.Lib.LaidU8T
import Derived.PinnedBridge
import Derived.SevenTiedAt
import Derived.Deep.DeepHandedRow
import Derived.Deep.DeepWitnessRowRef
import Derived.WalkKit
import Derived.ProofKit
import Derived.OpenShut
import Derived.ShutString
import Derived.ChangeOld
import Derived.Below
import Derived.SizedLaws
set_option linter.unusedVariables false
set_option linter.unusedSimpArgs false
set_option maxRecDepth 100000
set_option maxHeartbeats 32000000
namespace Go.Proofs.YtlcpigdmekgajaaGreatDoor.Abs
open _root_.Bool renaming false_eq_true → zaa, and_eq_true → zaf, not_true → zav, not_false → zaw, true_and → za1, false_or → za4, false_and → za5, and_true → zaC, true_or → zaI, or_eq_true → zaN, and_false → zbn, and_comm → zbD
open _root_.Option renaming map_eq_some_iff → zaH
open _root_.ByteArray renaming size_append → zac, size_extract → zau
open _root_.List renaming length_append → zag, append_assoc → zah, nil_append → zak, length_singleton → zan, append_nil → zao, map_cons → zaq, length_cons → zar, length_nil → zat, cons_append → za0, flatten_cons → za6, all_eq_true → za8, map_nil → zaD, length_map → zbi, flatten_nil → zb2
open _root_.Nat renaming le_trans → zaB
open _root_.Int renaming tmod_eq_emod_of_nonneg → zaE
section
open Go
theorem AaB (n : Nat) (hn : 1048576 < n) (B : ByteArray) (a : Int) (hB : B.size ≤ 1099511627776) (ha : -1152921504606846976 ≤ a ∧ a ≤ 1152921504606846976) : Di E0 (n + 1) 110 130 [Ai B, .sc (.int .i64 a)] = some (.tup [.sc (.int .i64 (Br B a).1), .sc (.int .i64 (Br B a).2.1), .sc (.bool (Br B a).2.2)]) := by
 rw [Be, Afe, f130]
 refine C7 (G := (· = some (.tup [.sc (.int .i64 (Br B a).1), .sc (.int .i64 (Br B a).2.1), .sc (.bool (Br B a).2.2)]))) ?_
 try simp only [A9, A5, Aw, Bg, Pr.gT, Pr.gF, Pr.hT, Pr.hF, Pr.kT, Pr.kF, Bv, B3, Bw, Dm]
 have s0 : Sep [] [] := C1
 refine D4 (Aa ((decide (a < 0))) (fun h1 => ?_) (fun h1 => ?_))
 have dh1 := of_decide_eq_true h1
 refine Ac h1 (Ac h1 (Ac h1 (Ac h1 (Ac h1 (B4 h1 (Au rfl (Ah (Cq s0 rfl (Ui .nil) (Uj trivial)) ?_)))))))
 have e : Br B a = (0, 0, false) := by
  clear s0
  simp only [Cs] at h1
  unfold Br; rw [if_pos (by omega)]
 ·rw [e]
  first | done | rfl
 have dh1 := of_decide_eq_false h1
 refine Af h1 (Af h1 (Af h1 (C4 (Af h1 (Nt (by omega) (by omega) (Af h1 (Eo (A6 h1 (Aa ((decide ((((B.size : Nat) : Int) - 2) < a))) (fun h2 => ?_) (fun h2 => ?_))))))))))
 have dh2 := of_decide_eq_true h2
 refine Au h2 (Ah (Cq s0 rfl (Ui .nil) (Uj trivial)) ?_)
 have e : Br B a = (0, 0, false) := by
  clear s0
  simp only [Cs] at h1 h2
  unfold Br; rw [if_pos (by omega)]
 ·rw [e]
  first | done | rfl
 have dh2 := of_decide_eq_false h2
 refine Ax h2 ?_
 have w3 := Ed B a
 refine Gk (by omega) (by omega) fun _ => Fc (c := su (A7 B a)) rfl (Jz (by omega) (by omega) (AdF 256 rfl (by decide) (by omega) (by omega) (Ca (by omega) (by omega) ?_)))
 have w4 := Ed B (a + 1)
 refine Gk (by omega) (by omega) fun _ => Fc (c := su (A7 B (a + 1))) rfl (Jz (by omega) (by omega) (AhP (Sb 8 _ _ (by omega) (by omega) (by omega) (by omega) (by omega) (by omega)) (Ca (by omega) (by omega) (Ah (Cq s0 rfl (Ui .nil) (Uj trivial)) ?_))))
 have e : Br B a = ((((A7 B a) * 256) + (A7 B (a + 1))), (a + 2), true) := by
  clear s0
  simp only [Cs] at h1 h2
  unfold Br; rw [if_neg (by omega)]
 ·rw [e]
  first | done | rfl
theorem Om (n : Nat) (hn : 1048576 < n) (B : ByteArray) (a : Int) (hB : B.size ≤ 1099511627776) (ha : -1152921504606846976 ≤ a ∧ a ≤ 1152921504606846976) : Di E0 (n + 1) 110 88 [Ai B, .sc (.int .i64 a)] = some (.tup [.sc (.int .i64 (Br B a).1), .sc (.int .i64 (Br B a).2.1), .sc (.bool (Br B a).2.2)]) := by
 rw [Be, Ah9, f88]
 refine C7 (G := (· = some (.tup [.sc (.int .i64 (Br B a).1), .sc (.int .i64 (Br B a).2.1), .sc (.bool (Br B a).2.2)]))) ?_
 try simp only [A9, A5, Aw, Bg, Pr.gT, Pr.gF, Pr.hT, Pr.hF, Pr.kT, Pr.kF, Bv, B3, Bw, Dm]
 have s0 : Sep [] [] := C1
 refine D4 (Aa ((decide (a < 0))) (fun h1 => ?_) (fun h1 => ?_))
 have dh1 := of_decide_eq_true h1
 refine Ac h1 (Ac h1 (Ac h1 (Ac h1 (Ac h1 (B4 h1 (Au rfl (Ah (Cq s0 rfl (Ui .nil) (Uj trivial)) ?_)))))))
 have e : Br B a = (0, 0, false) := by
  clear s0
  simp only [Cs] at h1
  unfold Br; rw [if_pos (by omega)]
 ·rw [e]
  first | done | rfl
 have dh1 := of_decide_eq_false h1
 refine Af h1 (Af h1 (Af h1 (C4 (Af h1 (Nt (by omega) (by omega) (Af h1 (Eo (A6 h1 (Aa ((decide ((((B.size : Nat) : Int) - 2) < a))) (fun h2 => ?_) (fun h2 => ?_))))))))))
 have dh2 := of_decide_eq_true h2
 refine Au h2 (Ah (Cq s0 rfl (Ui .nil) (Uj trivial)) ?_)
 have e : Br B a = (0, 0, false) := by
  clear s0
  simp only [Cs] at h1 h2
  unfold Br; rw [if_pos (by omega)]
 ·rw [e]
  first | done | rfl
 have dh2 := of_decide_eq_false h2
 refine Ax h2 ?_
 have w3 := Ed B a
 refine Gk (by omega) (by omega) fun _ => Fc (c := su (A7 B a)) rfl (Jz (by omega) (by omega) (Px (by omega) (by omega) (Ca (by omega) (by omega) ?_)))
 have w4 := Ed B (a + 1)
 refine Gk (by omega) (by omega) fun _ => Fc (c := su (A7 B (a + 1))) rfl (Jz (by omega) (by omega) (Ca (by omega) (by omega) (Ca (by omega) (by omega) (Ah (Cq s0 rfl (Ui .nil) (Uj trivial)) ?_))))
 have e : Br B a = ((((A7 B a) * 256) + (A7 B (a + 1))), (a + 2), true) := by
  clear s0
  simp only [Cs] at h1 h2
  unfold Br; rw [if_neg (by omega)]
 ·rw [e]
  first | done | rfl
theorem AfE (n : Nat) (hn : 1048576 < n) (B : ByteArray) (a : Int) (hB : B.size ≤ 1099511627776) (ha : -1152921504606846976 ≤ a ∧ a ≤ 1152921504606846976) : Di E0 (n + 5) 131 146 [Ai B, .sc (.int .i64 a)] = some (.tup [Ai (Bl B a).1, .sc (.int .i64 (Bl B a).2.1), .sc (.bool (Bl B a).2.2)]) := by
 rw [Be, Afq, f146]
 refine C7 (G := (· = some (.tup [Ai (Bl B a).1, .sc (.int .i64 (Bl B a).2.1), .sc (.bool (Bl B a).2.2)]))) ?_
 try simp only [Cz, A5, D8, Aw, Bg, Pr.gT, Pr.gF, Pr.hT, Pr.hF, Pr.kT, Pr.kF, Bv, B3, G4, C2, Hr]
 have s0 : Sep [] [] := C1
 obtain ⟨wq1, yq1, oq1, q1⟩ : ∃ w y o, Br B a = (w, y, o) := ⟨_, _, _, rfl⟩
 have bq1 := F1 q1
 refine Ek s0 rfl (.cons .ro (.cons .sc .nil)) (by have h := AaB (n + 3) (by omega) B a (by omega) (by omega); rw [q1] at h; exact h) rfl (Bk (Bk (Bk Eh))) ?_
 rintro _ _ H ⟨_, rfl, ⟨_, rfl, ⟨_, rfl, ⟨rfl, rfl⟩⟩⟩⟩ s2
 simp only [zak] at s2
 refine Bs (v := si wq1) rfl (Bs (v := si yq1) rfl (Bs (v := sb oq1) rfl (C5 (Aa (oq1) (fun h3 => ?_) (fun h3 => ?_)))))
 refine Af (nF h3) (Af (nF h3) (Eo (A6 (nF h3) (Aa ((decide (60 < wq1))) (fun h4 => ?_) (fun h4 => ?_)))))
 have dh4 := of_decide_eq_true h4
 refine Ac h4 (Ac h4 (Ac h4 (Ac h4 (Ac h4 (Ac h4 (B4 h4 (Au rfl (Ah (Cq s2 rfl (.nl (.sc (.sc .nil))) ⟨(An ⟨_, _, rfl, rfl⟩), (Fi trivial)⟩) ?_))))))))
 have e : Bl B a = (bs0, 0, false) := by
  clear s0 s2
  simp only [Cs] at h4
  unfold Bl; rw [q1]; show (if oq1 = false ∨ 60 < wq1 ∨ ((B.size : Nat) : Int) - yq1 < wq1 then _ else _) = _; rw [if_pos (by first | exact Or.inl (by assumption) | exact Or.inr (Or.inl (by assumption)) | exact Or.inr (Or.inr (by assumption)))]
 ·rw [e]
  first | done | rfl
 have dh4 := of_decide_eq_false h4
 refine Af h4 (Af h4 (Af h4 (C4 (Af h4 (Af h4 (Nt (by omega) (by omega) (Af h4 (Eo (A6 h4 (Aa ((decide ((((B.size : Nat) : Int) - yq1) < wq1))) (fun h5 => ?_) (fun h5 => ?_)))))))))))
 have dh5 := of_decide_eq_true h5
 refine Au h5 (Ah (Cq s2 rfl (.nl (.sc (.sc .nil))) ⟨(An ⟨_, _, rfl, rfl⟩), (Fi trivial)⟩) ?_)
 have e : Bl B a = (bs0, 0, false) := by
  clear s0 s2
  simp only [Cs] at h4 h5
  unfold Bl; rw [q1]; show (if oq1 = false ∨ 60 < wq1 ∨ ((B.size : Nat) : Int) - yq1 < wq1 then _ else _) = _; rw [if_pos (by first | exact Or.inl (by assumption) | exact Or.inr (Or.inl (by assumption)) | exact Or.inr (Or.inr (by assumption)))]
 ·rw [e]
  first | done | rfl
 have dh5 := of_decide_eq_false h5
 refine Ax h5 (Ca (by omega) (by omega) (Gl yq1 (yq1 + wq1) rfl rfl (by omega) (by omega) (by omega) ?_))
 have z6 := zau (a := B) (b := yq1.toNat) (e := (yq1 + wq1).toNat)
 refine Bh (cs := [Ai (B.extract yq1.toNat (yq1 + wq1).toNat)]) rfl (Ct s2 fun i7 H s8 => Cl s8 rfl (.sl (.here) rfl (.cons .ro .nil) .nil) (L5 n (by omega) (B.extract yq1.toNat (yq1 + wq1).toNat) (by omega)) (Df (B.extract yq1.toNat (yq1 + wq1).toNat)) fun x9 H lx9 s10 => Ca (by omega) (by omega) (Ah (Cq s10 rfl (.own (.here) (.sc (.sc .nil))) ⟨(Cg (Df (B.extract yq1.toNat (yq1 + wq1).toNat)) (by decide)), (Fi trivial)⟩) ?_))
 have e : Bl B a = ((B.extract yq1.toNat (yq1 + wq1).toNat), (yq1 + wq1), true) := by
  clear s0 s2 s8 s10
  simp only [Cs] at h4 h5
  unfold Bl; rw [q1]; show (if oq1 = false ∨ 60 < wq1 ∨ ((B.size : Nat) : Int) - yq1 < wq1 then _ else _) = _; rw [if_neg (by rintro (k | k | k) <;> first | omega | (simp_all; done))]
 ·rw [e]
  first | done | rfl
 refine Ac (nT h3) (Ac (nT h3) (B4 (nT h3) (Ac rfl (Ac rfl (Ac rfl (Ac rfl (Ac rfl (Ac rfl (B4 rfl (Au rfl (Ah (Cq s2 rfl (.nl (.sc (.sc .nil))) ⟨(An ⟨_, _, rfl, rfl⟩), (Fi trivial)⟩) ?_)))))))))))
 have e : Bl B a = (bs0, 0, false) := by
  clear s0 s2
  unfold Bl; rw [q1]; show (if oq1 = false ∨ 60 < wq1 ∨ ((B.size : Nat) : Int) - yq1 < wq1 then _ else _) = _; rw [if_pos (by first | exact Or.inl (by assumption) | exact Or.inr (Or.inl (by assumption)) | exact Or.inr (Or.inr (by assumption)))]
 ·rw [e]
  first | done | rfl
theorem Ol (n : Nat) (hn : 1048576 < n) (B : ByteArray) (a : Int) (hB : B.size ≤ 1099511627776) (ha : -1152921504606846976 ≤ a ∧ a ≤ 1152921504606846976) : Di E0 (n + 2) 131 126 [Ai B, .sc (.int .i64 a)] = some (.tup [Ai (Bl B a).1, .sc (.int .i64 (Bl B a).2.1), .sc (.bool (Bl B a).2.2)]) := by
 rw [Be, Afa, f126]
 refine C7 (G := (· = some (.tup [Ai (Bl B a).1, .sc (.int .i64 (Bl B a).2.1), .sc (.bool (Bl B a).2.2)]))) ?_
 try simp only [A5, D8, Aw, Bg, Pr.gT, Pr.gF, Pr.hT, Pr.hF, Pr.kT, Pr.kF, Bv, B3, G4, D3, Hr]
 have s0 : Sep [] [] := C1
 obtain ⟨wq1, yq1, oq1, q1⟩ : ∃ w y o, Br B a = (w, y, o) := ⟨_, _, _, rfl⟩
 have bq1 := F1 q1
 refine Ek s0 rfl (.cons .ro (.cons .sc .nil)) (by have h := Om n (by omega) B a (by omega) (by omega); rw [q1] at h; exact h) rfl (Bk (Bk (Bk Eh))) ?_
 rintro _ _ H ⟨_, rfl, ⟨_, rfl, ⟨_, rfl, ⟨rfl, rfl⟩⟩⟩⟩ s2
 simp only [zak] at s2
 refine Bs (v := si wq1) rfl (Bs (v := si yq1) rfl (Bs (v := sb oq1) rfl (C5 (Aa (oq1) (fun h3 => ?_) (fun h3 => ?_)))))
 refine Af (nF h3) (Af (nF h3) (Eo (A6 (nF h3) (Aa ((decide (60 < wq1))) (fun h4 => ?_) (fun h4 => ?_)))))
 have dh4 := of_decide_eq_true h4
 refine Ac h4 (Ac h4 (Ac h4 (Ac h4 (Ac h4 (Ac h4 (B4 h4 (Au rfl (Ah (Cq s2 rfl (.nl (.sc (.sc .nil))) ⟨(An ⟨_, _, rfl, rfl⟩), (Fi trivial)⟩) ?_))))))))
 have e : Bl B a = (bs0, 0, false) := by
  clear s0 s2
  simp only [Cs] at h4
  unfold Bl; rw [q1]; show (if oq1 = false ∨ 60 < wq1 ∨ ((B.size : Nat) : Int) - yq1 < wq1 then _ else _) = _; rw [if_pos (by first | exact Or.inl (by assumption) | exact Or.inr (Or.inl (by assumption)) | exact Or.inr (Or.inr (by assumption)))]
 ·rw [e]
  first | done | rfl
 have dh4 := of_decide_eq_false h4
 refine Af h4 (Af h4 (Af h4 (C4 (Af h4 (Af h4 (Nt (by omega) (by omega) (Af h4 (Eo (A6 h4 (Aa ((decide ((((B.size : Nat) : Int) - yq1) < wq1))) (fun h5 => ?_) (fun h5 => ?_)))))))))))
 have dh5 := of_decide_eq_true h5
 refine Au h5 (Ah (Cq s2 rfl (.nl (.sc (.sc .nil))) ⟨(An ⟨_, _, rfl, rfl⟩), (Fi trivial)⟩) ?_)
 have e : Bl B a = (bs0, 0, false) := by
  clear s0 s2
  simp only [Cs] at h4 h5
  unfold Bl; rw [q1]; show (if oq1 = false ∨ 60 < wq1 ∨ ((B.size : Nat) : Int) - yq1 < wq1 then _ else _) = _; rw [if_pos (by first | exact Or.inl (by assumption) | exact Or.inr (Or.inl (by assumption)) | exact Or.inr (Or.inr (by assumption)))]
 ·rw [e]
  first | done | rfl
 have dh5 := of_decide_eq_false h5
 refine Ax h5 (Ca (by omega) (by omega) (Gl yq1 (yq1 + wq1) rfl rfl (by omega) (by omega) (by omega) ?_))
 have z6 := zau (a := B) (b := yq1.toNat) (e := (yq1 + wq1).toNat)
 refine Ip s2 (by omega) fun x7 H lx7 s8 => Ca (by omega) (by omega) (Ah (Cq s8 rfl (.own (.here) (.sc (.sc .nil))) ⟨(Cg (Df (B.extract yq1.toNat (yq1 + wq1).toNat)) (by decide)), (Fi trivial)⟩) ?_)
 have e : Bl B a = ((B.extract yq1.toNat (yq1 + wq1).toNat), (yq1 + wq1), true) := by
  clear s0 s2 s8
  simp only [Cs] at h4 h5
  unfold Bl; rw [q1]; show (if oq1 = false ∨ 60 < wq1 ∨ ((B.size : Nat) : Int) - yq1 < wq1 then _ else _) = _; rw [if_neg (by rintro (k | k | k) <;> first | omega | (simp_all; done))]
 ·rw [e]
  first | done | rfl
 refine Ac (nT h3) (Ac (nT h3) (B4 (nT h3) (Ac rfl (Ac rfl (Ac rfl (Ac rfl (Ac rfl (Ac rfl (B4 rfl (Au rfl (Ah (Cq s2 rfl (.nl (.sc (.sc .nil))) ⟨(An ⟨_, _, rfl, rfl⟩), (Fi trivial)⟩) ?_)))))))))))
 have e : Bl B a = (bs0, 0, false) := by
  clear s0 s2
  unfold Bl; rw [q1]; show (if oq1 = false ∨ 60 < wq1 ∨ ((B.size : Nat) : Int) - yq1 < wq1 then _ else _) = _; rw [if_pos (by first | exact Or.inl (by assumption) | exact Or.inr (Or.inl (by assumption)) | exact Or.inr (Or.inr (by assumption)))]
 ·rw [e]
  first | done | rfl
theorem Kg (n : Nat) (hn : 1048576 < n) (B : ByteArray) (a : Int) (hB : B.size ≤ 1099511627776) (ha : -1152921504606846976 ≤ a ∧ a ≤ 1152921504606846976) : Di E0 (n + 5) 108 87 [Ai B, .sc (.int .i64 a)] = some (.tup [.sc (.string (Ce B a).1), .sc (.int .i64 (Ce B a).2.1), .sc (.bool (Ce B a).2.2)]) := by
 rw [Be, Ah8, f87]
 refine C7 (G := (· = some (.tup [.sc (.string (Ce B a).1), .sc (.int .i64 (Ce B a).2.1), .sc (.bool (Ce B a).2.2)]))) ?_
 try simp only [D8, Aw, Bg, Pr.gT, Pr.gF, Pr.hT, Pr.hF, Pr.kT, Pr.kF, Bv, Gg, Hr]
 have s0 : Sep [] [] := C1
 obtain ⟨vq1, yq1, oq1, q1⟩ : ∃ w y o, Bl B a = (w, y, o) := ⟨_, _, _, rfl⟩
 have bq1 := Fj q1
 refine Ek s0 rfl (.cons .ro (.cons .sc .nil)) (by have h := Ol (n + 2) (by omega) B a (by omega) (by omega); rw [q1] at h; exact h) rfl (Jd (ty := 22) rfl (Df vq1) (Bk (Bk Eh))) ?_
 rintro _ _ H ⟨x2, _, _, lx2, rfl, rfl, ⟨_, rfl, ⟨_, rfl, ⟨rfl, rfl⟩⟩⟩⟩ s3
 simp only [zak, za0] at s3
 refine Bs (v := x2) rfl (Bs (v := si yq1) rfl (Bs (v := sb oq1) rfl (C5 (Aa (oq1) (fun h4 => ?_) (fun h4 => ?_)))))
 refine Af (nF h4) (Af (nF h4) (Ll s3 ⟨_, _, rfl, rfl, rfl, rfl⟩ (.here) (Af (nF h4) (Ar (v := (.bool (Bi vq1))) s3 rfl (.cons .sc .nil) (Gc n (by omega) _ vq1) (Af (nF h4) (C5 (A6 (nF h4) (Aa ((Bi vq1)) (fun h5 => ?_) (fun h5 => ?_)))))))))
 refine Ax (nF h5) (Ll s3 ⟨_, _, rfl, rfl, rfl, rfl⟩ (.here) (Ah (Cq s3 rfl (Ui .nil) (Uj trivial)) ?_))
 have e : Ce B a = (vq1, yq1, true) := by
  unfold Ce; rw [q1]; simp only [h4, h5, za1, zaC, za5, zbn, if_true, if_false, zaa]
 ·rw [e]
  first | done | rfl
 refine Au (nT h5) (Ah (Cq s3 rfl (Ui .nil) (Uj trivial)) ?_)
 have e : Ce B a = (⟨#[]⟩, 0, false) := by
  unfold Ce; rw [q1]; simp only [h4, h5, za1, zaC, za5, zbn, if_true, if_false, zaa]
 ·rw [e]
  first | done | rfl
 refine Ac (nT h4) (Ac (nT h4) (Ac (nT h4) (Ac (nT h4) (B4 (nT h4) (Au rfl (Ah (Cq s3 rfl (Ui .nil) (Uj trivial)) ?_))))))
 have e : Ce B a = (⟨#[]⟩, 0, false) := by
  unfold Ce; rw [q1]; simp only [h4, za1, zaC, za5, zbn, if_true, if_false, zaa]
 ·rw [e]
  first | done | rfl
theorem U0 (n : Nat) (hn : 1048576 < n) (B : ByteArray) (a : Int) (hB : B.size ≤ 1099511627776) (ha : 0 ≤ a) : ∀ (f m : Nat) (i z : Int) (H : Ae), f < m → i + f = 4 → 0 ≤ i → a + i ≤ ((B.size : Nat) : Int) → Gd (· = some (.tup [.sc (.int .i64 (Ee B a f i z).1), .sc (.int .i64 (Ee B a f i z).2.1), .sc (.int .i64 (Ee B a f i z).2.2)])) (O7 (PR (n + 1) AV) (n + 1) (fun x H => Bm A4 E0.tp 85 H x) m (Ai B) (.sc (.int .i64 a)) (.sc (.int .i64 z)) (.sc (.int .i64 i)) H)
 | 0, m + 1, i, z, H, hm, hi, h0, hs => by
  have s0 : Sep H [] := C1
  rw [O7]
  try simp only [A9, A5, Aw, Bg, Pr.gT, Pr.gF, Pr.hT, Pr.hF, Pr.kT, Pr.kF, Bv, B3, Bw, Dm]
  have hk : decide (i < 4) = false := by simp; omega
  refine D4 (Ax hk (Ah (Cq s0 rfl (Ui .nil) (Uj trivial)) ?_))
  have e : Ee B a 0 i z = (0, 0, 2) := by
   rw [Ee]
  ·rw [e]
   first | done | rfl
 | f + 1, m + 1, i, z, H, hm, hi, h0, hs => by
  have s0 : Sep H [] := C1
  rw [O7]
  try simp only [A9, A5, Aw, Bg, Pr.gT, Pr.gF, Pr.hT, Pr.hF, Pr.kT, Pr.kF, Bv, B3, Bw, Dm]
  have hk : decide (i < 4) = true := by simp; omega
  refine D4 (Au hk (Ca (by omega) (by omega) (C4 (Bd (Aa ((decide ((a + i) = ((B.size : Nat) : Int)))) (fun h1 => ?_) (fun h1 => ?_))))))
  have dh1 := of_decide_eq_true h1
  refine Au h1 (Ah (Cq s0 rfl (Ui .nil) (Uj trivial)) ?_)
  have e : Ee B a (f + 1) i z = (0, 0, 1) := by
   clear s0
   rw [Ee]
   (repeat' split) <;> first | rfl | (exfalso; omega)
  ·rw [e]
   first | done | rfl
  have dh1 := of_decide_eq_false h1
  refine Ax h1 (Ca (by omega) (by omega) ?_)
  have w2 := Ed B (a + i)
  refine Gk (by omega) (by omega) fun _ => Fc (c := .sc (.int .u8 (A7 B (a + i)))) rfl (Jz (by omega) (by omega) (Gj rfl (Px (by omega) (by omega) (AdF (2 ^ (7 * i).toNat) rfl (by omega) (by have h := T0 (x := (bits .and .i64 (A7 B (a + i)) 127)) (i := i) (by rw [Ni (by omega) (by omega)]; omega) (by omega); omega) (by have h := T0 (x := (bits .and .i64 (A7 B (a + i)) 127)) (i := i) (by rw [Ni (by omega) (by omega)]; omega) (by omega); omega) (AhP rfl (Eo (Aa ((decide (127 < (A7 B (a + i))))) (fun h3 => ?_) (fun h3 => ?_))))))))
  have dh3 := of_decide_eq_true h3
  refine Au h3 (Ca (by omega) (by omega) ?_)
  have e : Ee B a (f + 1) i z = Ee B a f (i + 1) (bits .or .i64 z ((bits .and .i64 (A7 B (a + i)) 127) * 2 ^ (7 * i).toNat)) := by
   rw [Ee, if_neg (by omega), if_neg (by omega)]
  rw [e]
  exact U0 n hn B a hB ha f m _ _ _ (by omega) (by omega) (by omega) (by omega)
  have dh3 := of_decide_eq_false h3
  refine Ax h3 (Eo (Aa ((decide (0 < i))) (fun h4 => ?_) (fun h4 => ?_)))
  have dh4 := of_decide_eq_true h4
  refine Af h4 (Af h4 (Bd (B4 h4 (Aa ((decide ((A7 B (a + i)) = 0))) (fun h5 => ?_) (fun h5 => ?_)))))
  have dh5 := of_decide_eq_true h5
  refine Au h5 (Ah (Cq s0 rfl (Ui .nil) (Uj trivial)) ?_)
  have e : Ee B a (f + 1) i z = (0, 0, 2) := by
   clear s0
   rw [Ee]
   (repeat' split) <;> first | rfl | (exfalso; omega)
  ·rw [e]
   first | done | rfl
  have dh5 := of_decide_eq_false h5
  refine Ax h5 (Ca (by omega) (by omega) (Ca (by omega) (by omega) (Ah (Cq s0 rfl (Ui .nil) (Uj trivial)) ?_)))
  have e : Ee B a (f + 1) i z = ((bits .or .i64 z ((bits .and .i64 (A7 B (a + i)) 127) * 2 ^ (7 * i).toNat)), ((a + i) + 1), 0) := by
   clear s0
   rw [Ee]
   (repeat' split) <;> first | rfl | (exfalso; omega)
  ·rw [e]
   first | done | rfl
  have dh4 := of_decide_eq_false h4
  refine Ac h4 (Ac h4 (A6 h4 (Ax rfl (Ca (by omega) (by omega) (Ca (by omega) (by omega) (Ah (Cq s0 rfl (Ui .nil) (Uj trivial)) ?_))))))
  have e : Ee B a (f + 1) i z = ((bits .or .i64 z ((bits .and .i64 (A7 B (a + i)) 127) * 2 ^ (7 * i).toNat)), ((a + i) + 1), 0) := by
   clear s0
   rw [Ee]
   (repeat' split) <;> first | rfl | (exfalso; omega)
  ·rw [e]
   first | done | rfl
theorem AfF (n : Nat) (hn : 1048576 < n) (B : ByteArray) (a : Int) (hB : B.size ≤ 1099511627776) (ha : -1152921504606846976 ≤ a ∧ a ≤ 1152921504606846976) : Di E0 (n + 2) 85 68 [Ai B, .sc (.int .i64 a)] = some (.tup [.sc (.int .i64 (De B a).1), .sc (.int .i64 (De B a).2.1), .sc (.int .i64 (De B a).2.2)]) := by
 rw [Be, Ah0, f68]
 refine C7 (G := (· = some (.tup [.sc (.int .i64 (De B a).1), .sc (.int .i64 (De B a).2.1), .sc (.int .i64 (De B a).2.2)]))) ?_
 try simp only [D8, Aw, B3]
 have s0 : Sep [] [] := C1
 refine C4 (Ar (v := (.bool (B6 a 0 ((B.size : Nat) : Int)))) s0 rfl (Lu .nil) (Hl n _ a 0 ((B.size : Nat) : Int)) (C5 (Aa ((B6 a 0 ((B.size : Nat) : Int))) (fun h1 => ?_) (fun h1 => ?_))))
 refine Ax (nF h1) ?_
 have e : De B a = Ee B a 4 0 0 := by
  clear s0
  simp only [B6, zaf, decide_eq_true_eq] at h1; unfold De; rw [if_neg (by omega)]
 rw [e]
 have hv := h1; simp only [B6, zaf, decide_eq_true_eq] at hv; exact U0 n hn B a hB (by omega) 4 _ 0 0 _ (by omega) (by omega) (by omega) (by omega)
 refine Au (nT h1) (Ah (Cq s0 rfl (Ui .nil) (Uj trivial)) ?_)
 have e : De B a = (0, 0, 2) := by
  clear s0
  simp only [B6, Bool.and_eq_false_iff, decide_eq_false_iff_not] at h1; unfold De; rw [if_pos (by omega)]
 ·rw [e]
  first | done | rfl
theorem Vp (n : Nat) (hn : 1048576 < n) (B : ByteArray) (a : Int) (hB : B.size ≤ 1099511627776) (ha : 0 ≤ a) : ∀ (f m : Nat) (i z : Int) (H : Ae), f < m → i + f = 4 → 0 ≤ i → a + i ≤ ((B.size : Nat) : Int) → Gd (· = some (.tup [.sc (.int .i64 (Ee B a f i z).1), .sc (.int .i64 (Ee B a f i z).2.1), .sc (.int .i64 (Ee B a f i z).2.2)])) (O5 (PR (n + 1) AV) (n + 1) (fun x H => Bm A4 E0.tp 85 H x) m (Ai B) (.sc (.int .i64 a)) (.sc (.int .i64 z)) (.sc (.int .i64 i)) H)
 | 0, m + 1, i, z, H, hm, hi, h0, hs => by
  have s0 : Sep H [] := C1
  rw [O5]
  try simp only [A9, A5, Aw, Bg, Pr.gT, Pr.gF, Pr.hT, Pr.hF, Pr.kT, Pr.kF, Bv, B3, Bw, Dm]
  have hk : decide (i < 4) = false := by simp; omega
  refine D4 (Ax hk (Ah (Cq s0 rfl (Ui .nil) (Uj trivial)) ?_))
  have e : Ee B a 0 i z = (0, 0, 2) := by
   rw [Ee]
  ·rw [e]
   first | done | rfl
 | f + 1, m + 1, i, z, H, hm, hi, h0, hs => by
  have s0 : Sep H [] := C1
  rw [O5]
  try simp only [A9, A5, Aw, Bg, Pr.gT, Pr.gF, Pr.hT, Pr.hF, Pr.kT, Pr.kF, Bv, B3, Bw, Dm]
  have hk : decide (i < 4) = true := by simp; omega
  refine D4 (Au hk (Ca (by omega) (by omega) (C4 (AgJ (Aa ((decide (((B.size : Nat) : Int) ≤ (a + i)))) (fun h1 => ?_) (fun h1 => ?_))))))
  have dh1 := of_decide_eq_true h1
  refine Au h1 (Ah (Cq s0 rfl (Ui .nil) (Uj trivial)) ?_)
  have e : Ee B a (f + 1) i z = (0, 0, 1) := by
   clear s0
   rw [Ee]
   (repeat' split) <;> first | rfl | (exfalso; omega)
  ·rw [e]
   first | done | rfl
  have dh1 := of_decide_eq_false h1
  refine Ax h1 (Ca (by omega) (by omega) ?_)
  have w2 := Ed B (a + i)
  refine Gk (by omega) (by omega) fun _ => Fc (c := .sc (.int .u8 (A7 B (a + i)))) rfl (Jz (by omega) (by omega) (Gj rfl (Px (by omega) (by omega) (AdF (2 ^ (7 * i).toNat) rfl (by omega) (by have h := T0 (x := (bits .and .i64 (A7 B (a + i)) 127)) (i := i) (by rw [Ni (by omega) (by omega)]; omega) (by omega); omega) (by have h := T0 (x := (bits .and .i64 (A7 B (a + i)) 127)) (i := i) (by rw [Ni (by omega) (by omega)]; omega) (by omega); omega) (AhP rfl (D4 (Aa ((decide ((A7 B (a + i)) < 128))) (fun h3 => ?_) (fun h3 => ?_))))))))
  have dh3 := of_decide_eq_true h3
  refine Au h3 (Eo (Aa ((decide (0 < i))) (fun h4 => ?_) (fun h4 => ?_)))
  have dh4 := of_decide_eq_true h4
  refine Af h4 (Af h4 (Bd (B4 h4 (Aa ((decide ((A7 B (a + i)) = 0))) (fun h5 => ?_) (fun h5 => ?_)))))
  have dh5 := of_decide_eq_true h5
  refine Au h5 (Ah (Cq s0 rfl (Ui .nil) (Uj trivial)) ?_)
  have e : Ee B a (f + 1) i z = (0, 0, 2) := by
   clear s0
   rw [Ee]
   (repeat' split) <;> first | rfl | (exfalso; omega)
  ·rw [e]
   first | done | rfl
  have dh5 := of_decide_eq_false h5
  refine Ax h5 (Ca (by omega) (by omega) (Ca (by omega) (by omega) (Ah (Cq s0 rfl (Ui .nil) (Uj trivial)) ?_)))
  have e : Ee B a (f + 1) i z = ((bits .or .i64 z ((bits .and .i64 (A7 B (a + i)) 127) * 2 ^ (7 * i).toNat)), ((a + i) + 1), 0) := by
   clear s0
   rw [Ee]
   (repeat' split) <;> first | rfl | (exfalso; omega)
  ·rw [e]
   first | done | rfl
  have dh4 := of_decide_eq_false h4
  refine Ac h4 (Ac h4 (A6 h4 (Ax rfl (Ca (by omega) (by omega) (Ca (by omega) (by omega) (Ah (Cq s0 rfl (Ui .nil) (Uj trivial)) ?_))))))
  have e : Ee B a (f + 1) i z = ((bits .or .i64 z ((bits .and .i64 (A7 B (a + i)) 127) * 2 ^ (7 * i).toNat)), ((a + i) + 1), 0) := by
   clear s0
   rw [Ee]
   (repeat' split) <;> first | rfl | (exfalso; omega)
  ·rw [e]
   first | done | rfl
  have dh3 := of_decide_eq_false h3
  refine Ax h3 (Ca (by omega) (by omega) ?_)
  have e : Ee B a (f + 1) i z = Ee B a f (i + 1) (bits .or .i64 z ((bits .and .i64 (A7 B (a + i)) 127) * 2 ^ (7 * i).toNat)) := by
   rw [Ee, if_neg (by omega), if_neg (by omega)]
  rw [e]
  exact Vp n hn B a hB ha f m _ _ _ (by omega) (by omega) (by omega) (by omega)
theorem Agl (n : Nat) (hn : 1048576 < n) (B : ByteArray) (a : Int) (hB : B.size ≤ 1099511627776) (ha : -1152921504606846976 ≤ a ∧ a ≤ 1152921504606846976) : Di E0 (n + 2) 85 62 [Ai B, .sc (.int .i64 a)] = some (.tup [.sc (.int .i64 (De B a).1), .sc (.int .i64 (De B a).2.1), .sc (.int .i64 (De B a).2.2)]) := by
 rw [Be, Ahu, f62]
 refine C7 (G := (· = some (.tup [.sc (.int .i64 (De B a).1), .sc (.int .i64 (De B a).2.1), .sc (.int .i64 (De B a).2.2)]))) ?_
 try simp only [A5, Aw, Bg, Pr.gT, Pr.gF, Pr.hT, Pr.hF, Pr.kT, Pr.kF, Bv, B3]
 have s0 : Sep [] [] := C1
 refine D4 (Aa ((decide (a < 0))) (fun h1 => ?_) (fun h1 => ?_))
 have dh1 := of_decide_eq_true h1
 refine Ac h1 (Ac h1 (Ac h1 (Ac h1 (B4 h1 (Au rfl (Ah (Cq s0 rfl (Ui .nil) (Uj trivial)) ?_))))))
 have e : De B a = (0, 0, 2) := by
  clear s0
  unfold De; rw [if_pos (by omega)]
 ·rw [e]
  first | done | rfl
 have dh1 := of_decide_eq_false h1
 refine Af h1 (Af h1 (Af h1 (C4 (Af h1 (Eo (A6 h1 (Aa ((decide (((B.size : Nat) : Int) < a))) (fun h2 => ?_) (fun h2 => ?_))))))))
 have dh2 := of_decide_eq_true h2
 refine Au h2 (Ah (Cq s0 rfl (Ui .nil) (Uj trivial)) ?_)
 have e : De B a = (0, 0, 2) := by
  clear s0
  unfold De; rw [if_pos (by omega)]
 ·rw [e]
  first | done | rfl
 have dh2 := of_decide_eq_false h2
 refine Ax h2 ?_
 have e : De B a = Ee B a 4 0 0 := by
  clear s0
  unfold De; rw [if_neg (by omega)]
 rw [e]
 exact Vp n hn B a hB (by omega) 4 _ 0 0 _ (by omega) (by omega) (by omega) (by omega)
theorem Zw (n : Nat) (hn : 1048576 < n) (f : Int) (hf : 0 ≤ f ∧ f < 256) : Di E0 (n + 2) 4 67 [.sc (.int .i64 f)] = some (.sc (.bool (B8 f))) := by
 rw [Be, Ahz, f67]
 refine C7 (G := (· = some (sb (B8 f)))) ?_
 try simp only [A5, Aw, Bg, Pr.gT, Pr.gF, Pr.hT, Pr.hF, Pr.kT, Pr.kF, Bv]
 have s0 : Sep [] [] := C1
 refine Ns (by omega) (by omega) (by decide) (Ov (v := .sc (.int .i64 (f % 16))) (fun k => by show k (.sc (.int .i64 (Int.tmod (f) 16))) = _; rw [zaE (by omega)]) (Bd (Aa ((decide ((f / 16) = 3))) (fun h1 => ?_) (fun h1 => ?_))))
 have dh1 := of_decide_eq_true h1
 refine Au h1 (Rj 2 rfl (by decide) (Gj rfl (Lh (Aa ((decide ((bits .and .i64 ((f % 16) / 2) 3) = 3))) (fun h2 => ?_) (fun h2 => ?_)))))
 have dh2 := of_decide_eq_true h2
 refine Ac (nF h2) (Ac (nF h2) (Ac (nF h2) (D7 (D7 (D7 (Ac (nF h2) (A6 (nF h2) (Ah rfl ?_))))))))
 have e : B8 f = false := by
  clear s0
  simp only [Cs] at h1 h2
  first | rfl | (simp only [B8, h1, h2, if_true, if_false, zaa]; done) | (simp only [B8, h1, h2, if_true, if_false, zaa]; rfl) | (simp [B8, h1, h2]; done) | (simp [B8, h1, h2]; omega)
 ·rw [e]
  first | done | rfl
 have dh2 := of_decide_eq_false h2
 refine Af (nT h2) (Af (nT h2) (Eo (Af (nT h2) (Aa ((decide (0 < (bits .and .i64 ((f % 16) / 2) 3)))) (fun h3 => ?_) (fun h3 => ?_)))))
 have dh3 := of_decide_eq_true h3
 refine Ac h3 (Ac h3 (Ac h3 (Af (nT h2) (B4 h3 (B4 (nT h2) (Ah rfl ?_))))))
 have e : B8 f = true := by
  clear s0
  simp only [Cs] at h1 h2 h3
  first | rfl | (simp only [B8, h1, h2, h3, if_true, if_false, zaa]; done) | (simp only [B8, h1, h2, h3, if_true, if_false, zaa]; rfl) | (simp [B8, h1, h2, h3]; done) | (simp [B8, h1, h2, h3]; omega)
 ·rw [e]
  first | done | rfl
 have dh3 := of_decide_eq_false h3
 refine Af h3 (Af h3 (Gj rfl (Af h3 (Bd (Af (nT h2) (A6 h3 (B4 (nT h2) (Ah rfl ?_))))))))
 have e : B8 f = (decide ((bits .and .i64 (f % 16) 8) = 0)) := by
  clear s0
  simp only [Cs] at h1 h2 h3
  first | rfl | (simp only [B8, h1, h2, h3, if_true, if_false, zaa]; done) | (simp only [B8, h1, h2, h3, if_true, if_false, zaa]; rfl) | (simp [B8, h1, h2, h3]; done) | (simp [B8, h1, h2, h3]; omega)
 ·rw [e]
  first | done | rfl
 have dh1 := of_decide_eq_false h1
 refine Ax h1 (Bd (Dn (Aa ((decide ((f / 16) = 6))) (fun h4 => ?_) (fun h4 => ?_))))
 have dh4 := of_decide_eq_true h4
 refine Au h4 (Au h4 (Bd (Ah rfl ?_)))
 have e : B8 f = (decide ((f % 16) = 2)) := by
  clear s0
  simp only [Cs] at h1 h4
  first | rfl | (simp only [B8, h1, h4, if_true, if_false, zaa]; done) | (simp only [B8, h1, h4, if_true, if_false, zaa]; rfl) | (simp [B8, h1, h4]; done) | (simp [B8, h1, h4]; omega)
 ·rw [e]
  first | done | rfl
 have dh4 := of_decide_eq_false h4
 refine Ax h4 (Bd (Aa ((decide ((f / 16) = 8))) (fun h5 => ?_) (fun h5 => ?_)))
 have dh5 := of_decide_eq_true h5
 refine Au h5 (Au h5 (Bd (Ah rfl ?_)))
 have e : B8 f = (decide ((f % 16) = 2)) := by
  clear s0
  simp only [Cs] at h1 h4 h5
  first | rfl | (simp only [B8, h1, h4, h5, if_true, if_false, zaa]; done) | (simp only [B8, h1, h4, h5, if_true, if_false, zaa]; rfl) | (simp [B8, h1, h4, h5]; done) | (simp [B8, h1, h4, h5]; omega)
 ·rw [e]
  first | done | rfl
 have dh5 := of_decide_eq_false h5
 refine Ax h5 (Bd (Aa ((decide ((f / 16) = 10))) (fun h6 => ?_) (fun h6 => ?_)))
 have dh6 := of_decide_eq_true h6
 refine Au h6 (Bd (Ah rfl ?_))
 have e : B8 f = (decide ((f % 16) = 2)) := by
  clear s0
  simp only [Cs] at h1 h4 h5 h6
  first | rfl | (simp only [B8, h1, h4, h5, h6, if_true, if_false, zaa]; done) | (simp only [B8, h1, h4, h5, h6, if_true, if_false, zaa]; rfl) | (simp [B8, h1, h4, h5, h6]; done) | (simp [B8, h1, h4, h5, h6]; omega)
 ·rw [e]
  first | done | rfl
 have dh6 := of_decide_eq_false h6
 refine Ax h6 (Ar (v := (.bool (B6 (f / 16) 1 14))) s0 rfl (Lu .nil) (Hl n _ (f / 16) 1 14) (Aa ((B6 (f / 16) 1 14)) (fun h7 => ?_) (fun h7 => ?_)))
 refine Af h7 (Af h7 (Bd (B4 h7 (Ah rfl ?_))))
 have e : B8 f = (decide ((f % 16) = 0)) := by
  clear s0
  simp only [Cs] at h1 h4 h5 h6
  first | rfl | (simp only [B8, h1, h4, h5, h6, h7, if_true, if_false, zaa]; done) | (simp only [B8, h1, h4, h5, h6, h7, if_true, if_false, zaa]; rfl) | (simp [B8, h1, h4, h5, h6, h7]; done) | (simp [B8, h1, h4, h5, h6, h7]; omega)
 ·rw [e]
  first | done | rfl
 refine Ac h7 (Ac h7 (A6 h7 (Ah rfl ?_)))
 have e : B8 f = false := by
  clear s0
  simp only [Cs] at h1 h4 h5 h6
  first | rfl | (simp only [B8, h1, h4, h5, h6, h7, if_true, if_false, zaa]; done) | (simp only [B8, h1, h4, h5, h6, h7, if_true, if_false, zaa]; rfl) | (simp [B8, h1, h4, h5, h6, h7]; done) | (simp [B8, h1, h4, h5, h6, h7]; omega)
 ·rw [e]
  first | done | rfl
theorem Aac (n : Nat) (hn : 1048576 < n) (f : Int) (hf : 0 ≤ f ∧ f < 256) : Di E0 (n + 1) 4 61 [.sc (.int .i64 f)] = some (.sc (.bool (Cy f))) := by
 rw [Be, Aht, f61]
 refine C7 (G := (· = some (sb (Cy f)))) ?_
 try simp only [A5, Aw, Bg, Pr.gT, Pr.gF, Pr.hT, Pr.hF, Pr.kT, Pr.kF, Bv]
 have s0 : Sep [] [] := C1
 refine Ns (by omega) (by omega) (by decide) (Ov (v := .sc (.int .i64 (f % 16))) (fun k => by show k (.sc (.int .i64 (Int.tmod (f) 16))) = _; rw [zaE (by omega)]) (Bd (Dn (Aa ((decide ((f / 16) = 0))) (fun h1 => ?_) (fun h1 => ?_)))))
 have dh1 := of_decide_eq_true h1
 refine Au h1 (Au h1 (Ah rfl ?_))
 have e : Cy f = false := by
  clear s0
  simp only [Cs] at h1
  first | rfl | (simp only [Cy, h1, if_true, if_false, zaa]; done) | (simp only [Cy, h1, if_true, if_false, zaa]; rfl) | (simp [Cy, h1]; done) | (simp [Cy, h1]; omega)
 ·rw [e]
  first | done | rfl
 have dh1 := of_decide_eq_false h1
 refine Ax h1 (Bd (Aa ((decide ((f / 16) = 15))) (fun h2 => ?_) (fun h2 => ?_)))
 have dh2 := of_decide_eq_true h2
 refine Au h2 (Ah rfl ?_)
 have e : Cy f = false := by
  clear s0
  simp only [Cs] at h1 h2
  first | rfl | (simp only [Cy, h1, h2, if_true, if_false, zaa]; done) | (simp only [Cy, h1, h2, if_true, if_false, zaa]; rfl) | (simp [Cy, h1, h2]; done) | (simp [Cy, h1, h2]; omega)
 ·rw [e]
  first | done | rfl
 have dh2 := of_decide_eq_false h2
 refine Ax h2 (Bd (Aa ((decide ((f / 16) = 3))) (fun h3 => ?_) (fun h3 => ?_)))
 have dh3 := of_decide_eq_true h3
 refine Au h3 (Ns (by omega) (by omega) (by decide) (Ov (v := .sc (.int .i64 (((f % 16) / 2) % 4))) (fun k => by show k (.sc (.int .i64 (Int.tmod (((f % 16) / 2)) 4))) = _; rw [zaE (by omega)]) (D4 (Aa ((decide ((((f % 16) / 2) % 4) < 3))) (fun h4 => ?_) (fun h4 => ?_)))))
 have dh4 := of_decide_eq_true h4
 refine Af h4 (Af h4 (Eo (Af h4 (Aa ((decide (0 < (((f % 16) / 2) % 4)))) (fun h5 => ?_) (fun h5 => ?_)))))
 have dh5 := of_decide_eq_true h5
 refine Ac h5 (Ac h5 (Af h4 (B4 h5 (B4 h4 (Ah rfl ?_)))))
 have e : Cy f = true := by
  clear s0
  simp only [Cs] at h1 h2 h3 h4 h5
  first | rfl | (simp only [Cy, h1, h2, h3, h4, h5, if_true, if_false, zaa]; done) | (simp only [Cy, h1, h2, h3, h4, h5, if_true, if_false, zaa]; rfl) | (simp [Cy, h1, h2, h3, h4, h5]; done) | (simp [Cy, h1, h2, h3, h4, h5]; omega)
 ·rw [e]
  first | done | rfl
 have dh5 := of_decide_eq_false h5
 refine Af h5 (Af h5 (D4 (Af h4 (A6 h5 (B4 h4 (Ah rfl ?_))))))
 have e : Cy f = (decide ((f % 16) < 8)) := by
  clear s0
  simp only [Cs] at h1 h2 h3 h4 h5
  first | rfl | (simp only [Cy, h1, h2, h3, h4, h5, if_true, if_false, zaa]; done) | (simp only [Cy, h1, h2, h3, h4, h5, if_true, if_false, zaa]; rfl) | (simp [Cy, h1, h2, h3, h4, h5]; done) | (simp [Cy, h1, h2, h3, h4, h5]; omega)
 ·rw [e]
  first | done | rfl
 have dh4 := of_decide_eq_false h4
 refine Ac h4 (Ac h4 (Ac h4 (D7 (D7 (Ac h4 (A6 h4 (Ah rfl ?_)))))))
 have e : Cy f = false := by
  clear s0
  simp only [Cs] at h1 h2 h3 h4
  first | rfl | (simp only [Cy, h1, h2, h3, h4, if_true, if_false, zaa]; done) | (simp only [Cy, h1, h2, h3, h4, if_true, if_false, zaa]; rfl) | (simp [Cy, h1, h2, h3, h4]; done) | (simp [Cy, h1, h2, h3, h4]; omega)
 ·rw [e]
  first | done | rfl
 have dh3 := of_decide_eq_false h3
 refine Ax h3 (Bd (Dn (Aa ((decide ((f / 16) = 6))) (fun h6 => ?_) (fun h6 => ?_))))
 have dh6 := of_decide_eq_true h6
 refine Au h6 (Au h6 (Bd (Ah rfl ?_)))
 have e : Cy f = (decide ((f % 16) = 2)) := by
  clear s0
  simp only [Cs] at h1 h2 h3 h6
  first | rfl | (simp only [Cy, h1, h2, h3, h6, if_true, if_false, zaa]; done) | (simp only [Cy, h1, h2, h3, h6, if_true, if_false, zaa]; rfl) | (simp [Cy, h1, h2, h3, h6]; done) | (simp [Cy, h1, h2, h3, h6]; omega)
 ·rw [e]
  first | done | rfl
 have dh6 := of_decide_eq_false h6
 refine Ax h6 (Bd (Aa ((decide ((f / 16) = 8))) (fun h7 => ?_) (fun h7 => ?_)))
 have dh7 := of_decide_eq_true h7
 refine Au h7 (Au h7 (Bd (Ah rfl ?_)))
 have e : Cy f = (decide ((f % 16) = 2)) := by
  clear s0
  simp only [Cs] at h1 h2 h3 h6 h7
  first | rfl | (simp only [Cy, h1, h2, h3, h6, h7, if_true, if_false, zaa]; done) | (simp only [Cy, h1, h2, h3, h6, h7, if_true, if_false, zaa]; rfl) | (simp [Cy, h1, h2, h3, h6, h7]; done) | (simp [Cy, h1, h2, h3, h6, h7]; omega)
 ·rw [e]
  first | done | rfl
 have dh7 := of_decide_eq_false h7
 refine Ax h7 (Bd (Aa ((decide ((f / 16) = 10))) (fun h8 => ?_) (fun h8 => ?_)))
 have dh8 := of_decide_eq_true h8
 refine Au h8 (Bd (Ah rfl ?_))
 have e : Cy f = (decide ((f % 16) = 2)) := by
  clear s0
  simp only [Cs] at h1 h2 h3 h6 h7 h8
  first | rfl | (simp only [Cy, h1, h2, h3, h6, h7, h8, if_true, if_false, zaa]; done) | (simp only [Cy, h1, h2, h3, h6, h7, h8, if_true, if_false, zaa]; rfl) | (simp [Cy, h1, h2, h3, h6, h7, h8]; done) | (simp [Cy, h1, h2, h3, h6, h7, h8]; omega)
 ·rw [e]
  first | done | rfl
 have dh8 := of_decide_eq_false h8
 refine Ax h8 (Bd (Ah rfl ?_))
 have e : Cy f = (decide ((f % 16) = 0)) := by
  clear s0
  simp only [Cs] at h1 h2 h3 h6 h7 h8
  first | rfl | (simp only [Cy, h1, h2, h3, h6, h7, h8, if_true, if_false, zaa]; done) | (simp only [Cy, h1, h2, h3, h6, h7, h8, if_true, if_false, zaa]; rfl) | (simp [Cy, h1, h2, h3, h6, h7, h8]; done) | (simp [Cy, h1, h2, h3, h6, h7, h8]; omega)
 ·rw [e]
  first | done | rfl
end
section
open Go
theorem Acf (n : Nat) (hn : 1048576 < n) (c : Nat) (B : ByteArray) (a : Int) (b : Bool) (hB : B.size ≤ 1099511627776) (h0 : 0 ≤ a) (h1 : a ≤ ((B.size : Nat) : Int)) {β : Type} {G : Option β → Prop} {KH : KO β} {H : Ae} {L : List Ck} (s0 : Sep H (.blk c [Ai B, .sc (.int .i64 a), .sc (.bool b)] true :: L)) (hk : ∀ (v : Int) (a' : Int) (b' : Bool) (H' : Ae), Kj B (a, b) = (v, a', b') → Sep H' (.blk c [Ai B, .sc (.int .i64 a'), .sc (.bool b')] true :: L) → Gd G (KH (.sc (.int .i64 v)) H')) : Gd G (Ff E0 (n + 1) β 100 [.ptr c 0] H fun x H => KH x H) := by
 rw [AeL, f100]
 try simp only [Bx, A9, Dz, A5, Aw, Bg, Pr.gT, Pr.gF, Pr.hT, Pr.hF, Pr.kT, Pr.kF, Bv, B3, Bw, Dm, O3]
 refine Dj (Ab (o' := 2) rfl (Aq (c := sb b) s0 (.here) rfl (Aa (b) (fun h1 => ?_) (fun h1 => ?_))))
 refine Ac h1 (Ac h1 (Ac h1 (Ac h1 (Ac h1 (Ac h1 (Ac h1 (Ac h1 (Ac h1 (Ac h1 (B4 h1 (Au rfl (Dj (Ab (o' := 2) rfl (A8 s0 (.here) rfl rfl fun H s2 => ?_))))))))))))))
 have e : Kj B (a, b) = (0, a, true) := by
  unfold Kj; simp [h1]
 exact hk _ _ _ _ e s2
 refine Af h1 (Af h1 (Dj (Af h1 (Ab (o' := 1) rfl (Af h1 (Aq (c := si a) s0 (.here) rfl (Af h1 (Af h1 (Dj (Af h1 (Ab (o' := 0) rfl (Af h1 (Aq (c := Ai B) s0 (.here) rfl (Af h1 (C4 (Af h1 (AgJ (A6 h1 (Aa ((decide (((B.size : Nat) : Int) ≤ a))) (fun h3 => ?_) (fun h3 => ?_))))))))))))))))))))
 have dh3 := of_decide_eq_true h3
 refine Au h3 (Dj (Ab (o' := 2) rfl (A8 s0 (.here) rfl rfl fun H s4 => ?_)))
 have e : Kj B (a, b) = (0, a, true) := by
  simp only [Cs] at h3
  unfold Kj; simp [h1, h3]
 exact hk _ _ _ _ e s4
 have dh3 := of_decide_eq_false h3
 refine Ax h3 (Dj (Ab (o' := 1) rfl (Aq (c := si a) s0 (.here) rfl (Ca (by omega) (by omega) (Dj (Ab (o' := 1) rfl (A8 s0 (.here) rfl rfl fun H s5 => Dj (Ab (o' := 0) rfl (Aq (c := Ai B) s5 (.here) rfl (Dj (Ab (o' := 1) rfl (Aq (c := si (a + 1)) s5 (.here) rfl (Nt (by omega) (by omega) ?_)))))))))))))
 have w6 := Ed B ((a + 1) - 1)
 refine Gk (by omega) (by omega) fun _ => Fc (c := su (A7 B ((a + 1) - 1))) rfl (Jz (by omega) (by omega) ?_)
 have e : Kj B (a, b) = ((A7 B ((a + 1) - 1)), (a + 1), b) := by
  clear hk s0 s5
  simp only [Cs] at h3
  unfold Kj; simp [h1, h3]; try omega
 exact hk _ _ _ _ e s5
theorem Ae3 (n : Nat) (hn : 1048576 < n) (c : Nat) (B : ByteArray) (a : Int) (b : Bool) (hB : B.size ≤ 1099511627776) (h0 : 0 ≤ a) (h1 : a ≤ ((B.size : Nat) : Int)) {β : Type} {G : Option β → Prop} {KH : KO β} {H : Ae} {L : List Ck} (s0 : Sep H (.blk c [Ai B, .sc (.int .i64 a), .sc (.bool b)] true :: L)) (hk : ∀ (v : Int) (a' : Int) (b' : Bool) (H' : Ae), G3 B (a, b) = (v, a', b') → Sep H' (.blk c [Ai B, .sc (.int .i64 a'), .sc (.bool b')] true :: L) → Gd G (KH (.sc (.int .i64 v)) H')) : Gd G (Ff E0 (n + 2) β 102 [.ptr c 0] H fun x H => KH x H) := by
 rw [AeM, f102]
 try simp only [Bx, A9, Dz, D8, Aw, Bg, Pr.gT, Pr.gF, Pr.hT, Pr.hF, Pr.kT, Pr.kF, Bv, Hr, O3]
 refine Dj (Ab (o' := 0) rfl (Aq (c := Ai B) s0 (.here) rfl (Dj (Ab (o' := 1) rfl (Aq (c := si a) s0 (.here) rfl ?_)))))
 obtain ⟨wq1, yq1, oq1, q1⟩ : ∃ w y o, Br B a = (w, y, o) := ⟨_, _, _, rfl⟩
 have bq1 := F1 q1
 refine Ek s0 rfl (.cons .ro (.cons .sc .nil)) (by have h := AaB n (by omega) B a (by omega) (by omega); rw [q1] at h; exact h) rfl (Bk (Bk (Bk Eh))) ?_
 rintro _ _ H ⟨_, rfl, ⟨_, rfl, ⟨_, rfl, ⟨rfl, rfl⟩⟩⟩⟩ s2
 simp only [zak] at s2
 refine Bs (v := si wq1) rfl (Bs (v := si yq1) rfl (Bs (v := sb oq1) rfl (Dj (Ab (o' := 2) rfl (Aq (c := sb b) s2 (.here) rfl (Aa (b) (fun h3 => ?_) (fun h3 => ?_)))))))
 refine Ac h3 (Ac h3 (B4 h3 (Au rfl (Dj (Ab (o' := 2) rfl (A8 s2 (.here) rfl rfl fun H s4 => ?_))))))
 have e : G3 B (a, b) = (0, a, true) := by
  unfold G3; simp [q1, h3]
 exact hk _ _ _ _ e s4
 refine Af h3 (Af h3 (C5 (A6 h3 (Aa (oq1) (fun h5 => ?_) (fun h5 => ?_)))))
 refine Ax (nF h5) (Dj (Ab (o' := 1) rfl (A8 s2 (.here) rfl rfl fun H s6 => ?_)))
 have e : G3 B (a, b) = (wq1, yq1, b) := by
  unfold G3; simp [q1, h3, h5]
 exact hk _ _ _ _ e s6
 refine Au (nT h5) (Dj (Ab (o' := 2) rfl (A8 s2 (.here) rfl rfl fun H s7 => ?_)))
 have e : G3 B (a, b) = (0, a, true) := by
  unfold G3; simp [q1, h3, h5]
 exact hk _ _ _ _ e s7
theorem I7 (n : Nat) (hn : 1048576 < n) (c : Nat) (B : ByteArray) (a : Int) (b : Bool) (hB : B.size ≤ 1099511627776) (h0 : 0 ≤ a) (h1 : a ≤ ((B.size : Nat) : Int)) {β : Type} {G : Option β → Prop} {KH : KO β} {H : Ae} {L : List Ck} (s0 : Sep H (.blk c [Ai B, .sc (.int .i64 a), .sc (.bool b)] true :: L)) (hk : ∀ (x : AV) (v : ByteArray) (a' : Int) (b' : Bool) (H' : Ae), Bn x = true → Es B (a, b) = (v, a', b') → Sep H' (.own x 22 (Ai v) :: .blk c [Ai B, .sc (.int .i64 a'), .sc (.bool b')] true :: L) → Gd G (KH x H')) : Gd G (Ff E0 (n + 6) β 129 [.ptr c 0] H fun x H => KH x H) := by
 rw [Afd, f129]
 try simp only [Bx, A9, Dz, D8, Aw, Bg, Pr.gT, Pr.gF, Pr.hT, Pr.hF, Pr.kT, Pr.kF, Bv, Hr, O3]
 refine Dj (Ab (o' := 0) rfl (Aq (c := Ai B) s0 (.here) rfl (Dj (Ab (o' := 1) rfl (Aq (c := si a) s0 (.here) rfl ?_)))))
 obtain ⟨vq1, yq1, oq1, q1⟩ : ∃ w y o, Bl B a = (w, y, o) := ⟨_, _, _, rfl⟩
 have bq1 := Fj q1
 refine Ek s0 rfl (.cons .ro (.cons .sc .nil)) (by have h := AfE n (by omega) B a (by omega) (by omega); rw [q1] at h; exact h) rfl (Jd (ty := 22) rfl (Df vq1) (Bk (Bk Eh))) ?_
 rintro _ _ H ⟨x2, _, _, lx2, rfl, rfl, ⟨_, rfl, ⟨_, rfl, ⟨rfl, rfl⟩⟩⟩⟩ s3
 simp only [zak, za0] at s3
 refine Bs (v := x2) rfl (Bs (v := si yq1) rfl (Bs (v := sb oq1) rfl (Dj (Ab (o' := 2) rfl (Aq (c := sb b) s3 C6 rfl (Aa (b) (fun h4 => ?_) (fun h4 => ?_)))))))
 refine Ac h4 (Ac h4 (B4 h4 (Au rfl (Dj (Ab (o' := 2) rfl (A8 s3 C6 rfl rfl fun H s5 => ?_))))))
 have e : Es B (a, b) = (bs0, a, true) := by
  unfold Es; simp [q1, h4]
 have s6 := s5.nl (ty := 22) ⟨_, _, rfl, rfl⟩
 exact hk .nl _ _ _ _ rfl e (s6.sel (.cons (.here) (.cons (.here) (.skip .rest))))
 refine Af h4 (Af h4 (C5 (A6 h4 (Aa (oq1) (fun h7 => ?_) (fun h7 => ?_)))))
 refine Ax (nF h7) (Dj (Ab (o' := 1) rfl (A8 s3 C6 rfl rfl fun H s8 => ?_)))
 have e : Es B (a, b) = (vq1, yq1, b) := by
  unfold Es; simp [q1, h4, h7]
 exact hk x2 _ _ _ _ lx2 e (s8.pick C6)
 refine Au (nT h7) (Dj (Ab (o' := 2) rfl (A8 s3 C6 rfl rfl fun H s9 => ?_)))
 have e : Es B (a, b) = (bs0, a, true) := by
  unfold Es; simp [q1, h4, h7]
 have s10 := s9.nl (ty := 22) ⟨_, _, rfl, rfl⟩
 exact hk .nl _ _ _ _ rfl e (s10.sel (.cons (.here) (.cons (.here) (.skip .rest))))
theorem Te (n : Nat) (hn : 1048576 < n) (t : Int) (B : ByteArray) (c d : Nat) (id : Int) (hB : B.size ≤ 1099511627776) {β : Type} {G : Option β → Prop} {L : List Ck} (k : KO β) : ∀ (f m : Nat) (a : Int) (b : Bool) (ws : List WantV) (cs : List Int) (ns : List ByteArray) (xw xc xn : AV) (H : Ae), f ≤ m → ((b = true ∧ 1 ≤ f) ∨ 6 ≤ f + (ws.length + cs.length + ns.length)) → ws.length + cs.length + ns.length ≤ 5 → 0 ≤ a → a ≤ ((B.size : Nat) : Int) → Bn xw = true → Bn xc = true → Bn xn = true → Sep H (.own xw 55 (Dk Cj ws) :: .own xc 57 (E1 cs) :: .own xn 56 (E3 ns) :: .blk c [Ai B, .sc (.int .i64 a), .sc (.bool b)] true :: .blk d [.sc (.int .i64 t), .sc (.bool false), .sc (.int .i64 0), .sc (.bool false), .sc (.int .i64 id), .sc (.string (⟨#[]⟩)), .nl, .sc (.string (⟨#[]⟩)), .sc (.int .i64 0), .sc (.bool false), .sc (.int .i64 0), .sc (.bool false), .sc (.string (⟨#[]⟩)), .nl, .sc (.int .i64 0), .sc (.bool false), .sc (.bool false), .sc (.string (⟨#[]⟩)), .sc (.bool false), .nl, .sc (.int .i64 0), .sc (.bool false), xw, xn, xc] true :: L) → (∀ (yw yc yn : AV) (a' : Int) (b' : Bool) (H' : Ae), Bn yw = true → Bn yc = true → Bn yn = true → Sep H' (.own yw 55 (Dk Cj ((Cp t B f (a, b) ws cs ns).1)) :: .own yc 57 (E1 ((Cp t B f (a, b) ws cs ns).2.1)) :: .own yn 56 (E3 ((Cp t B f (a, b) ws cs ns).2.2)) :: .blk c [Ai B, .sc (.int .i64 (a')), .sc (.bool b')] true :: .blk d [.sc (.int .i64 t), .sc (.bool false), .sc (.int .i64 0), .sc (.bool false), .sc (.int .i64 id), .sc (.string (⟨#[]⟩)), .nl, .sc (.string (⟨#[]⟩)), .sc (.int .i64 0), .sc (.bool false), .sc (.int .i64 0), .sc (.bool false), .sc (.string (⟨#[]⟩)), .nl, .sc (.int .i64 0), .sc (.bool false), .sc (.bool false), .sc (.string (⟨#[]⟩)), .sc (.bool false), .nl, .sc (.int .i64 0), .sc (.bool false), yw, yn, yc] true :: L) → Gd G (k (Dt []) H')) → Gd G (J7 (PR (n + 8) β) (n + 8) k m (.ptr c 0) (.ptr d 0) H)
 | 0, m, a, b, ws, cs, ns, xw, xc, xn, H, hm, hM, ht, h0, h1, lxw, lxc, lxn, s0, hk => by
  exfalso
  omega
 | f + 1, m + 1, a, b, ws, cs, ns, xw, xc, xn, H, hm, hM, ht, h0, h1, lxw, lxc, lxn, s0, hk => by
  rw [J7]
  try simp only [Fk, Cz, Bx, A9, Dz, A5, Aw, Bg, Pr.gT, Pr.gF, Pr.hT, Pr.hF, Pr.kT, Pr.kF, Bv, B3, C2, D3, O3]
  refine Nr rfl rfl ?_
  rw [Aff, f131]
  try simp only [Bx, A9, A5, D8, Bg, Pr.gT, Pr.gF, Pr.hT, Pr.hF, Pr.kT, Pr.kF, Bv, B3, O3]
  refine Dj (Ab (o' := 2) rfl (Aq (c := sb b) s0 Ls rfl (C5 (Aa (b) (fun h1 => ?_) (fun h1 => ?_)))))
  refine Ac (nF h1) (Ac (nF h1) (Ac (nF h1) (Ac (nF h1) (Ac (nF h1) (Ac (nF h1) (Ac (nF h1) (Ac (nF h1) (Ac (nF h1) (Ac (nF h1) (A6 (nF h1) (Ac rfl (Ac rfl (Ac rfl (Ac rfl (Ac rfl (Ac rfl (Ac rfl (Ac rfl (Ac rfl (Ac rfl (Ac rfl (Ac rfl (Ac rfl (Ac rfl (Ac rfl (Ac rfl (Ac rfl (Ac rfl (A6 rfl (Ax rfl ?_))))))))))))))))))))))))))))))
  have e : Cp t B (f + 1) (a, b) ws cs ns = (ws, cs, ns) := by
   rw [Cp]; simp [h1]
  rw [e] at hk
  exact hk xw xc xn a b _ lxw lxc lxn (s0.sel (.cons (.here) (.cons (.here) (.cons (.here) (.cons (.here) (.cons (.here) .rest))))))
  refine Af (nT h1) (Af (nT h1) (Dj (Af (nT h1) (Ab (o' := 1) rfl (Af (nT h1) (Aq (c := si a) s0 Ls rfl (Af (nT h1) (Af (nT h1) (Dj (Af (nT h1) (Ab (o' := 0) rfl (Af (nT h1) (Aq (c := Ai B) s0 Ls rfl (Af (nT h1) (C4 (Af (nT h1) (D4 (B4 (nT h1) (Aa ((decide (a < ((B.size : Nat) : Int)))) (fun h2 => ?_) (fun h2 => ?_))))))))))))))))))))
  have dh2 := of_decide_eq_true h2
  refine Af h2 (Af h2 (Dj (Af h2 (Ab (o' := 22) rfl (Af h2 (Aq (c := xw) s0 Lt rfl (Af h2 (Jb s0 (.here) (Af h2 (Af h2 (Dj (Af h2 (Ab (o' := 24) rfl (Af h2 (Aq (c := xc) s0 Lt rfl (Af h2 (Jb s0 C6 (Af h2 (Ca (by omega) (by omega) (Af h2 (Af h2 (Dj (Af h2 (Ab (o' := 23) rfl (Af h2 (Aq (c := xn) s0 Lt rfl (Af h2 (Jb s0 Do (Af h2 (Ca (by omega) (by omega) (Af h2 (J2 (B4 h2 (Aa ((decide (((((ws.length : Nat) : Int) + ((cs.length : Nat) : Int)) + ((ns.length : Nat) : Int)) ≤ 4))) (fun h3 => ?_) (fun h3 => ?_)))))))))))))))))))))))))))))))))))
  have dh3 := of_decide_eq_true h3
  refine Au h3 (Dj (Ab (o' := 0) rfl (Aq (c := si t) s0 Lt rfl (Bd (Aa ((decide (t = 8))) (fun h4 => ?_) (fun h4 => ?_))))))
  have dh4 := of_decide_eq_true h4
  refine Au h4 (Bh (cs := [sE, i0]) rfl (Hw s0 fun i5 H s6 => Cm (cs' := [sE, i0]) s6 (.here) (Am rfl) rfl (Cr rfl) rfl fun H s7 => Nr rfl rfl ?_))
  rw [Le, f101]
  try simp only [Gg]
  have s9 := s7.pick Lt
  refine Ja rfl rfl (I7 (n + 1) (by omega) c B a (b) hB (by omega) (by omega) s9 fun xq8 vq8 aq8 bq8 H lxq8 q8 s10 => ?_)
  have b_q8 := Fg q8 (by omega) (by omega)
  refine Ll s10 ⟨_, _, rfl, rfl, rfl, rfl⟩ (.here) (Ab (o' := 0) rfl (A8 s10 Do rfl rfl fun H s11 => ?_))
  have s13 := s11.pick Do
  refine Ja rfl rfl (Acf (n + 7) (by omega) c B aq8 (bq8) hB (by omega) (by omega) s13 fun vq12 aq12 bq12 H q12 s14 => ?_)
  have b_q12 := On q12 (by omega) (by omega)
  refine Ab (o' := 1) rfl (A8 s14 C6 rfl rfl fun H s15 => Dj (Ab (o' := 22) rfl (Aq (c := xw) s15 Ww rfl (Av s15 (.here) rfl (Bh (cs := [.sc (.string vq8), .sc (.int .i64 vq12)]) (Js (z' := [.sc (.string vq8), .sc (.int .i64 vq12)]) (Am rfl) rfl (Cr rfl) rfl (rfl)) (Ct s15 fun i16 H s17 => V8 (cty := [9, 3]) (e := (⟨vq8, vq12⟩ : WantV)) s17 ⟨_, _, rfl, rfl, rfl, rfl⟩ Lt (.here) rfl rfl (.sc (.sc .nil)) (Fi trivial) rfl (by first | omega | (simp only [zag, zan]; omega)) fun x18 H lx18 s19 => Dj (Ab (o' := 22) rfl (Cm (cs' := [.sc (.int .i64 t), .sc (.bool false), .sc (.int .i64 0), .sc (.bool false), .sc (.int .i64 id), .sc (.string (⟨#[]⟩)), .nl, .sc (.string (⟨#[]⟩)), .sc (.int .i64 0), .sc (.bool false), .sc (.int .i64 0), .sc (.bool false), .sc (.string (⟨#[]⟩)), .nl, .sc (.int .i64 0), .sc (.bool false), .sc (.bool false), .sc (.string (⟨#[]⟩)), .sc (.bool false), .nl, .sc (.int .i64 0), .sc (.bool false), x18, xn, xc]) s19 Ww (Ef lx18) rfl (Cr rfl) rfl fun H s20 => ?_))))))))
  have e : Cp t B (f + 1) (a, b) ws cs ns = Cp t B f (aq12, bq12) (ws ++ [⟨vq8, vq12⟩]) cs ns := by
   simp only [Cs] at h2 h3 h4
   rw [Cp]; simp only [q8, q12]; simp [h1, h2, h3, h4]
  rw [e] at hk
  have hM2 : 6 ≤ f + 1 + (ws.length + cs.length + ns.length) := hM.resolve_left (by simp [h1])
  exact Te n hn t B c d id hB k f m aq12 bq12 (ws ++ [⟨vq8, vq12⟩]) cs ns x18 xc xn _ (by omega) (by first | exact Or.inl ⟨rfl, by omega⟩ | omega | (simp only [zag, zan]; omega)) (by first | omega | (simp only [zag, zan]; omega)) (by omega) (by omega) lx18 lxc lxn (s20.sel (.cons C6 (.cons Lt (.cons Lt (.cons Do (.cons (.here) zS2)))))) hk
  have dh4 := of_decide_eq_false h4
  refine Ax h4 (Bd (Aa ((decide (t = 9))) (fun h21 => ?_) (fun h21 => ?_)))
  have dh21 := of_decide_eq_true h21
  refine Au h21 ?_
  have s23 := s0.pick Ls
  refine Ja rfl rfl (Acf (n + 7) (by omega) c B a (b) hB (by omega) (by omega) s23 fun vq22 aq22 bq22 H q22 s24 => ?_)
  have b_q22 := On q22 (by omega) (by omega)
  refine Dj (Ab (o' := 24) rfl (Aq (c := xc) s24 Lt rfl (Bh (cs := [.sc (.int .i64 vq22)]) rfl (Ct s24 fun i25 H s26 => Aa9 s26 Ls (.here) ⟨_, _, rfl, rfl, rfl, rfl⟩ rfl (by first | omega | (simp only [zbi]; omega)) fun x27 H lx27 s28 => Dj (Ab (o' := 24) rfl (Cm (cs' := [.sc (.int .i64 t), .sc (.bool false), .sc (.int .i64 0), .sc (.bool false), .sc (.int .i64 id), .sc (.string (⟨#[]⟩)), .nl, .sc (.string (⟨#[]⟩)), .sc (.int .i64 0), .sc (.bool false), .sc (.int .i64 0), .sc (.bool false), .sc (.string (⟨#[]⟩)), .nl, .sc (.int .i64 0), .sc (.bool false), .sc (.bool false), .sc (.string (⟨#[]⟩)), .sc (.bool false), .nl, .sc (.int .i64 0), .sc (.bool false), xw, xn, x27]) s28 Lt (Ef lx27) rfl (Cr rfl) rfl fun H s29 => ?_))))))
  have e : Cp t B (f + 1) (a, b) ws cs ns = Cp t B f (aq22, bq22) ws (cs ++ [vq22]) ns := by
   simp only [Cs] at h2 h3 h4 h21
   rw [Cp]; simp only [q22]; simp [h1, h2, h3, h4, h21]
  rw [e] at hk
  have hM2 : 6 ≤ f + 1 + (ws.length + cs.length + ns.length) := hM.resolve_left (by simp [h1])
  exact Te n hn t B c d id hB k f m aq22 bq22 ws (cs ++ [vq22]) ns xw x27 xn _ (by omega) (by first | exact Or.inl ⟨rfl, by omega⟩ | omega | (simp only [zag, zan]; omega)) (by first | omega | (simp only [zag, zan]; omega)) (by omega) (by omega) lxw lx27 lxn (s29.sel (.cons Ls (.cons C6 (.cons Do (.cons C6 (.cons (.here) .rest)))))) hk
  have dh21 := of_decide_eq_false h21
  refine Ax h21 (Bd (Aa ((decide (t = 10))) (fun h30 => ?_) (fun h30 => ?_)))
  have dh30 := of_decide_eq_true h30
  refine Au h30 (Nr rfl rfl ?_)
  rw [Le, f101]
  try simp only [Gg]
  have s32 := s0.pick Ls
  refine Ja rfl rfl (I7 (n + 1) (by omega) c B a (b) hB (by omega) (by omega) s32 fun xq31 vq31 aq31 bq31 H lxq31 q31 s33 => ?_)
  have b_q31 := Fg q31 (by omega) (by omega)
  refine Ll s33 ⟨_, _, rfl, rfl, rfl, rfl⟩ (.here) (Dj (Ab (o' := 23) rfl (Aq (c := xn) s33 Uk rfl (Bh (cs := [.sc (.string vq31)]) rfl (Ct s33 fun i34 H s35 => V9 s35 Uk (.here) ⟨_, _, rfl, rfl, rfl, rfl⟩ rfl (by first | omega | (simp only [zbi]; omega)) fun x36 H lx36 s37 => Dj (Ab (o' := 23) rfl (Cm (cs' := [.sc (.int .i64 t), .sc (.bool false), .sc (.int .i64 0), .sc (.bool false), .sc (.int .i64 id), .sc (.string (⟨#[]⟩)), .nl, .sc (.string (⟨#[]⟩)), .sc (.int .i64 0), .sc (.bool false), .sc (.int .i64 0), .sc (.bool false), .sc (.string (⟨#[]⟩)), .nl, .sc (.int .i64 0), .sc (.bool false), .sc (.bool false), .sc (.string (⟨#[]⟩)), .sc (.bool false), .nl, .sc (.int .i64 0), .sc (.bool false), xw, x36, xc]) s37 Uk (Ef lx36) rfl (Cr rfl) rfl fun H s38 => ?_)))))))
  have e : Cp t B (f + 1) (a, b) ws cs ns = Cp t B f (aq31, bq31) ws cs (ns ++ [vq31]) := by
   simp only [Cs] at h2 h3 h4 h21 h30
   rw [Cp]; simp only [q31]; simp [h1, h2, h3, h4, h21, h30]
  rw [e] at hk
  have hM2 : 6 ≤ f + 1 + (ws.length + cs.length + ns.length) := hM.resolve_left (by simp [h1])
  exact Te n hn t B c d id hB k f m aq31 bq31 ws cs (ns ++ [vq31]) xw xc x36 _ (by omega) (by first | exact Or.inl ⟨rfl, by omega⟩ | omega | (simp only [zag, zan]; omega)) (by first | omega | (simp only [zag, zan]; omega)) (by omega) (by omega) lxw lxc lx36 (s38.sel (.cons Lt (.cons Lt (.cons C6 (.cons Do (.cons (.here) (.skip .rest))))))) hk
  have dh30 := of_decide_eq_false h30
  refine Ax h30 (Dj (Ab (o' := 2) rfl (Cm (cs' := [Ai B, si a, bT]) s0 Ls (Ef rfl) rfl (Cr rfl) rfl fun H s39 => ?_)))
  have e : Cp t B (f + 1) (a, b) ws cs ns = Cp t B f (a, true) ws cs ns := by
   simp only [Cs] at h2 h3 h4 h21 h30
   rw [Cp]; simp [h1, h2, h3, h4, h21, h30]
  rw [e] at hk
  have hM2 : 6 ≤ f + 1 + (ws.length + cs.length + ns.length) := hM.resolve_left (by simp [h1])
  exact Te n hn t B c d id hB k f m a true ws cs ns xw xc xn _ (by omega) (by first | exact Or.inl ⟨rfl, by omega⟩ | omega | (simp only [zag, zan]; omega)) (by first | omega | (simp only [zag, zan]; omega)) (by omega) (by omega) lxw lxc lxn (s39.sel (.cons C6 (.cons C6 (.cons C6 (.cons (.here) (.cons (.here) .rest)))))) hk
  have dh3 := of_decide_eq_false h3
  refine Ax h3 ?_
  have e : Cp t B (f + 1) (a, b) ws cs ns = (ws, cs, ns) := by
   clear hk s0
   simp only [Cs] at h2 h3
   rw [Cp]; simp [h1, h2, h3]; try omega
  rw [e] at hk
  exact hk xw xc xn a b _ lxw lxc lxn (s0.sel (.cons (.here) (.cons (.here) (.cons (.here) (.cons (.here) (.cons (.here) .rest))))))
  have dh2 := of_decide_eq_false h2
  refine Ac h2 (Ac h2 (Ac h2 (Ac h2 (Ac h2 (Ac h2 (Ac h2 (Ac h2 (Ac h2 (Ac h2 (Ac h2 (Ac h2 (Ac h2 (Ac h2 (Ac h2 (Ac h2 (Ac h2 (Ac h2 (A6 h2 (Ax rfl ?_)))))))))))))))))))
  have e : Cp t B (f + 1) (a, b) ws cs ns = (ws, cs, ns) := by
   simp only [Cs] at h2
   rw [Cp]; simp [h1, h2]
  rw [e] at hk
  exact hk xw xc xn a b _ lxw lxc lxn (s0.sel (.cons (.here) (.cons (.here) (.cons (.here) (.cons (.here) (.cons (.here) .rest))))))
theorem AgT (n : Nat) (hn : 1048576 < n) (first : Int) (B : ByteArray) (hf : 0 ≤ first ∧ first < 256) (hB : B.size ≤ 1099511627776) : Di E0 (n + 11) 59 69 [.sc (.int .i64 first), Ai B] = some (.agg (A0 (D2 first B))) := by
 rw [Be, Ah1, f69]
 refine C7 (G := (· = some (.agg (A0 (D2 first B))))) ?_
 try simp only [Fx, Fk, Cz, Bx, A9, Dz, A5, D8, Aw, G4, C2, O3]
 have s0 : Sep [] [] := C1
 refine Hw s0 fun i1 H s2 => Bh (cs := [Ai B, i0, bF]) rfl (Lg s2 (Am rfl) fun i3 H s4 => Ns (by omega) (by omega) (by decide) (Bh (cs := [si (first / 16), bF, i0, bF, i0, sE, .nl, sE, i0, bF, i0, bF, sE, .nl, i0, bF, bF, sE, bF, .nl, i0, bF, .nl, .nl, .nl]) rfl (Hw s4 fun i5 H s6 => Cm (cs' := [si (first / 16), bF, i0, bF, i0, sE, .nl, sE, i0, bF, i0, bF, sE, .nl, i0, bF, bF, sE, bF, .nl, i0, bF, .nl, .nl, .nl]) s6 (.here) (Am rfl) rfl (Cr rfl) rfl fun H s7 => Ab (o' := 0) rfl (Aq (c := si (first / 16)) s7 (.here) rfl (Bd (Dn (Aa ((decide ((first / 16) = 1))) (fun h8 => ?_) (fun h8 => ?_))))))))
 have dh8 := of_decide_eq_true h8
 refine Au h8 (Nr rfl rfl ?_)
 rw [AhK, f99]
 try simp only [Bx, A9, Dz, A5, Aw, O3]
 refine Nr rfl rfl ?_
 rw [Le, f101]
 try simp only [Gg]
 have s10 := s7.pick C6
 refine Ja rfl rfl (I7 (n + 2) (by omega) i3 B 0 (false) hB (by omega) (by omega) s10 fun xq9 vq9 aq9 bq9 H lxq9 q9 s11 => ?_)
 have b_q9 := Fg q9 (by omega) (by omega)
 refine Ll s11 ⟨_, _, rfl, rfl, rfl, rfl⟩ (.here) ?_
 have s13 := s11.pick C6
 refine Ja rfl rfl (Acf (n + 8) (by omega) i3 B aq9 (bq9) hB (by omega) (by omega) s13 fun vq12 aq12 bq12 H q12 s14 => ?_)
 have b_q12 := On q12 (by omega) (by omega)
 refine Dj (Ab (o' := 8) rfl (A8 s14 Do rfl rfl fun H s15 => ?_))
 have s17 := s15.pick C6
 refine Ja rfl rfl (Acf (n + 8) (by omega) i3 B aq12 (bq12) hB (by omega) (by omega) s17 fun vq16 aq16 bq16 H q16 s18 => ?_)
 have b_q16 := On q16 (by omega) (by omega)
 have s20 := s18.pick (.here)
 refine Ja rfl rfl (Ae3 (n + 7) (by omega) i3 B aq16 (bq16) hB (by omega) (by omega) s20 fun vq19 aq19 bq19 H q19 s21 => ?_)
 have b_q19 := Q9 q19 (by omega) (by omega)
 refine Dj (Ab (o' := 10) rfl (A8 s21 C6 rfl rfl fun H s22 => Nr rfl rfl ?_))
 rw [Le, f101]
 try simp only [Gg]
 have s24 := s22.pick C6
 refine Ja rfl rfl (I7 (n + 2) (by omega) i3 B aq19 (bq19) hB (by omega) (by omega) s24 fun xq23 vq23 aq23 bq23 H lxq23 q23 s25 => ?_)
 have b_q23 := Fg q23 (by omega) (by omega)
 refine Ll s25 ⟨_, _, rfl, rfl, rfl, rfl⟩ (.here) (Dj (Ab (o' := 7) rfl (A8 s25 Do rfl rfl fun H s26 => Gj rfl (Lh (Gj rfl (Lh (Gj rfl (Lh (Gj rfl (Lh (Dj (Ab (o' := 9) rfl (A8 s26 (.here) rfl rfl fun H s27 => Dj (Ab (o' := 11) rfl (A8 s27 (.here) rfl rfl fun H s28 => Dj (Ab (o' := 18) rfl (A8 s28 (.here) rfl rfl fun H s29 => Dj (Ab (o' := 16) rfl (A8 s29 (.here) rfl rfl fun H s30 => Dj (Ab (o' := 11) rfl (Aq (c := sb (!(decide ((bits .and .i64 vq16 4) = 0)))) s30 (.here) rfl (Dn (Aa ((decide ((bits .and .i64 vq16 4) = 0))) (fun h31 => ?_) (fun h31 => ?_))))))))))))))))))))))))
 have dh31 := of_decide_eq_true h31
 refine Ax (nF h31) (Dj (Ab (o' := 16) rfl (Aq (c := sb (!(decide ((bits .and .i64 vq16 128) = 0)))) s30 (.here) rfl (Dn (Aa ((decide ((bits .and .i64 vq16 128) = 0))) (fun h32 => ?_) (fun h32 => ?_))))))
 have dh32 := of_decide_eq_true h32
 refine Ax (nF h32) (Dj (Ab (o' := 18) rfl (Aq (c := sb (!(decide ((bits .and .i64 vq16 64) = 0)))) s30 (.here) rfl (Aa ((decide ((bits .and .i64 vq16 64) = 0))) (fun h33 => ?_) (fun h33 => ?_)))))
 have dh33 := of_decide_eq_true h33
 refine Ax (nF h33) (Av s30 (.here) rfl (Cm (cs' := [si (first / 16), bF, i0, bF, i0, sE, .nl, ss vq23, si vq12, sb (!(decide ((bits .and .i64 vq16 2) = 0))), si vq19, sb (!(decide ((bits .and .i64 vq16 4) = 0))), sE, .nl, i0, bF, sb (!(decide ((bits .and .i64 vq16 128) = 0))), sE, sb (!(decide ((bits .and .i64 vq16 64) = 0))), .nl, i0, bF, .nl, .nl, .nl]) s30 Lt (Am rfl) rfl (Cr rfl) rfl fun H s34 => Av s34 (.here) rfl (Ah (Ch s34 ⟨_, rfl, rfl⟩ (Eb (.nl (Eb (.nl (G8 (.nl (.sc (.sc (.nl (.nl (.nl .nil))))))))))) (Ec ⟨(An ⟨_, _, rfl, rfl⟩), (Ec ⟨(An ⟨_, _, rfl, rfl⟩), (Ha ⟨(An ⟨_, _, rfl, rfl⟩), (Fi ⟨(An ⟨_, _, rfl, rfl⟩), ⟨(An ⟨_, _, rfl, rfl⟩), ⟨(An ⟨_, _, rfl, rfl⟩), trivial⟩⟩⟩)⟩)⟩)⟩)) ?_)))
 have e : D2 first B = (⟨(first / 16), false, 0, false, 0, ⟨#[]⟩, ⟨#[]⟩, vq23, vq12, (!(decide ((bits .and .i64 vq16 2) = 0))), vq19, (!(decide ((bits .and .i64 vq16 4) = 0))), ⟨#[]⟩, ⟨#[]⟩, 0, false, (!(decide ((bits .and .i64 vq16 128) = 0))), ⟨#[]⟩, (!(decide ((bits .and .i64 vq16 64) = 0))), ⟨#[]⟩, 0, false, [], [], []⟩ : PacketV) := by
  simp only [Cs] at h8
  unfold D2 Fh Gi; simp only [h8, h31, h32, h33, q9, q12, q16, q19, q23, if_true, if_false, or_true, or_false, false_or, true_or, zav, zaw, zaa, reduceIte]; simp [Bj, h8, h31, h32, h33]
 ·rw [e]
  first | done | rfl
 have dh33 := of_decide_eq_false h33
 refine Au (nT h33) ?_
 have s36 := s30.pick Do
 refine Ja rfl rfl (I7 (n + 3) (by omega) i3 B aq23 (bq23) hB (by omega) (by omega) s36 fun xq35 vq35 aq35 bq35 H lxq35 q35 s37 => ?_)
 have b_q35 := Fg q35 (by omega) (by omega)
 refine Dj (Ab (o' := 19) rfl (A8 s37 Do lxq35 rfl fun H s38 => Av s38 (.here) rfl (Cm (cs' := [si (first / 16), bF, i0, bF, i0, sE, .nl, ss vq23, si vq12, sb (!(decide ((bits .and .i64 vq16 2) = 0))), si vq19, sb (!(decide ((bits .and .i64 vq16 4) = 0))), sE, .nl, i0, bF, sb (!(decide ((bits .and .i64 vq16 128) = 0))), sE, sb (!(decide ((bits .and .i64 vq16 64) = 0))), xq35, i0, bF, .nl, .nl, .nl]) s38 Uk (Am (Ad rfl (Ad rfl (Ad rfl (Ad rfl (Ad rfl (Ad rfl (Ad rfl (Ad rfl (Ad rfl (Ad rfl (Ad rfl (Ad rfl (Ad rfl (Ad rfl (Ad rfl (Ad rfl (Ad rfl (Ad rfl (Ad rfl (Ad lxq35 rfl))))))))))))))))))))) rfl (Cr rfl) rfl fun H s39 => Av s39 (.here) rfl (Ah (Ch s39 ⟨_, rfl, rfl⟩ (Eb (.nl (Eb (.nl (G8 (.own Do (.sc (.sc (.nl (.nl (.nl .nil))))))))))) (Ec ⟨(An ⟨_, _, rfl, rfl⟩), (Ec ⟨(An ⟨_, _, rfl, rfl⟩), (Ha ⟨(Cg (Df vq35) (by decide)), (Fi ⟨(An ⟨_, _, rfl, rfl⟩), ⟨(An ⟨_, _, rfl, rfl⟩), ⟨(An ⟨_, _, rfl, rfl⟩), trivial⟩⟩⟩)⟩)⟩)⟩)) ?_))))
 have e : D2 first B = (⟨(first / 16), false, 0, false, 0, ⟨#[]⟩, ⟨#[]⟩, vq23, vq12, (!(decide ((bits .and .i64 vq16 2) = 0))), vq19, (!(decide ((bits .and .i64 vq16 4) = 0))), ⟨#[]⟩, ⟨#[]⟩, 0, false, (!(decide ((bits .and .i64 vq16 128) = 0))), ⟨#[]⟩, (!(decide ((bits .and .i64 vq16 64) = 0))), vq35, 0, false, [], [], []⟩ : PacketV) := by
  simp only [Cs] at h8
  unfold D2 Fh Gi; simp only [h8, h31, h32, h33, q9, q12, q16, q19, q23, q35, if_true, if_false, or_true, or_false, false_or, true_or, zav, zaw, zaa, reduceIte]; simp [Bj, h8, h31, h32, h33]
 ·rw [e]
  first | done | rfl
 have dh32 := of_decide_eq_false h32
 refine Au (nT h32) (Nr rfl rfl ?_)
 rw [Le, f101]
 try simp only [Gg]
 have s41 := s30.pick Do
 refine Ja rfl rfl (I7 (n + 2) (by omega) i3 B aq23 (bq23) hB (by omega) (by omega) s41 fun xq40 vq40 aq40 bq40 H lxq40 q40 s42 => ?_)
 have b_q40 := Fg q40 (by omega) (by omega)
 refine Ll s42 ⟨_, _, rfl, rfl, rfl, rfl⟩ (.here) (Dj (Ab (o' := 17) rfl (A8 s42 Do rfl rfl fun H s43 => Dj (Ab (o' := 18) rfl (Aq (c := sb (!(decide ((bits .and .i64 vq16 64) = 0)))) s43 (.here) rfl (Aa ((decide ((bits .and .i64 vq16 64) = 0))) (fun h44 => ?_) (fun h44 => ?_)))))))
 have dh44 := of_decide_eq_true h44
 refine Ax (nF h44) (Av s43 (.here) rfl (Cm (cs' := [si (first / 16), bF, i0, bF, i0, sE, .nl, ss vq23, si vq12, sb (!(decide ((bits .and .i64 vq16 2) = 0))), si vq19, sb (!(decide ((bits .and .i64 vq16 4) = 0))), sE, .nl, i0, bF, sb (!(decide ((bits .and .i64 vq16 128) = 0))), ss vq40, sb (!(decide ((bits .and .i64 vq16 64) = 0))), .nl, i0, bF, .nl, .nl, .nl]) s43 Uk (Am rfl) rfl (Cr rfl) rfl fun H s45 => Av s45 (.here) rfl (Ah (Ch s45 ⟨_, rfl, rfl⟩ (Eb (.nl (Eb (.nl (G8 (.nl (.sc (.sc (.nl (.nl (.nl .nil))))))))))) (Ec ⟨(An ⟨_, _, rfl, rfl⟩), (Ec ⟨(An ⟨_, _, rfl, rfl⟩), (Ha ⟨(An ⟨_, _, rfl, rfl⟩), (Fi ⟨(An ⟨_, _, rfl, rfl⟩), ⟨(An ⟨_, _, rfl, rfl⟩), ⟨(An ⟨_, _, rfl, rfl⟩), trivial⟩⟩⟩)⟩)⟩)⟩)) ?_)))
 have e : D2 first B = (⟨(first / 16), false, 0, false, 0, ⟨#[]⟩, ⟨#[]⟩, vq23, vq12, (!(decide ((bits .and .i64 vq16 2) = 0))), vq19, (!(decide ((bits .and .i64 vq16 4) = 0))), ⟨#[]⟩, ⟨#[]⟩, 0, false, (!(decide ((bits .and .i64 vq16 128) = 0))), vq40, (!(decide ((bits .and .i64 vq16 64) = 0))), ⟨#[]⟩, 0, false, [], [], []⟩ : PacketV) := by
  simp only [Cs] at h8
  unfold D2 Fh Gi; simp only [h8, h31, h32, h44, q9, q12, q16, q19, q23, q40, if_true, if_false, or_true, or_false, false_or, true_or, zav, zaw, zaa, reduceIte]; simp [Bj, h8, h31, h32, h44]
 ·rw [e]
  first | done | rfl
 have dh44 := of_decide_eq_false h44
 refine Au (nT h44) ?_
 have s47 := s43.pick Do
 refine Ja rfl rfl (I7 (n + 3) (by omega) i3 B aq40 (bq40) hB (by omega) (by omega) s47 fun xq46 vq46 aq46 bq46 H lxq46 q46 s48 => ?_)
 have b_q46 := Fg q46 (by omega) (by omega)
 refine Dj (Ab (o' := 19) rfl (A8 s48 Do lxq46 rfl fun H s49 => Av s49 (.here) rfl (Cm (cs' := [si (first / 16), bF, i0, bF, i0, sE, .nl, ss vq23, si vq12, sb (!(decide ((bits .and .i64 vq16 2) = 0))), si vq19, sb (!(decide ((bits .and .i64 vq16 4) = 0))), sE, .nl, i0, bF, sb (!(decide ((bits .and .i64 vq16 128) = 0))), ss vq40, sb (!(decide ((bits .and .i64 vq16 64) = 0))), xq46, i0, bF, .nl, .nl, .nl]) s49 Ww (Am (Ad rfl (Ad rfl (Ad rfl (Ad rfl (Ad rfl (Ad rfl (Ad rfl (Ad rfl (Ad rfl (Ad rfl (Ad rfl (Ad rfl (Ad rfl (Ad rfl (Ad rfl (Ad rfl (Ad rfl (Ad rfl (Ad rfl (Ad lxq46 rfl))))))))))))))))))))) rfl (Cr rfl) rfl fun H s50 => Av s50 (.here) rfl (Ah (Ch s50 ⟨_, rfl, rfl⟩ (Eb (.nl (Eb (.nl (G8 (.own Do (.sc (.sc (.nl (.nl (.nl .nil))))))))))) (Ec ⟨(An ⟨_, _, rfl, rfl⟩), (Ec ⟨(An ⟨_, _, rfl, rfl⟩), (Ha ⟨(Cg (Df vq46) (by decide)), (Fi ⟨(An ⟨_, _, rfl, rfl⟩), ⟨(An ⟨_, _, rfl, rfl⟩), ⟨(An ⟨_, _, rfl, rfl⟩), trivial⟩⟩⟩)⟩)⟩)⟩)) ?_))))
 have e : D2 first B = (⟨(first / 16), false, 0, false, 0, ⟨#[]⟩, ⟨#[]⟩, vq23, vq12, (!(decide ((bits .and .i64 vq16 2) = 0))), vq19, (!(decide ((bits .and .i64 vq16 4) = 0))), ⟨#[]⟩, ⟨#[]⟩, 0, false, (!(decide ((bits .and .i64 vq16 128) = 0))), vq40, (!(decide ((bits .and .i64 vq16 64) = 0))), vq46, 0, false, [], [], []⟩ : PacketV) := by
  simp only [Cs] at h8
  unfold D2 Fh Gi; simp only [h8, h31, h32, h44, q9, q12, q16, q19, q23, q40, q46, if_true, if_false, or_true, or_false, false_or, true_or, zav, zaw, zaa, reduceIte]; simp [Bj, h8, h31, h32, h44]
 ·rw [e]
  first | done | rfl
 have dh31 := of_decide_eq_false h31
 refine Au (nT h31) (Rj 8 rfl (by decide) (Gj rfl (Gj rfl (Lh (Dj (Ab (o' := 14) rfl (A8 s30 (.here) rfl rfl fun H s51 => Dj (Ab (o' := 15) rfl (A8 s51 (.here) rfl rfl fun H s52 => Nr rfl rfl ?_)))))))))
 rw [Le, f101]
 try simp only [Gg]
 have s54 := s52.pick Do
 refine Ja rfl rfl (I7 (n + 2) (by omega) i3 B aq23 (bq23) hB (by omega) (by omega) s54 fun xq53 vq53 aq53 bq53 H lxq53 q53 s55 => ?_)
 have b_q53 := Fg q53 (by omega) (by omega)
 refine Ll s55 ⟨_, _, rfl, rfl, rfl, rfl⟩ (.here) (Dj (Ab (o' := 12) rfl (A8 s55 Do rfl rfl fun H s56 => ?_)))
 have s58 := s56.pick Do
 refine Ja rfl rfl (I7 (n + 3) (by omega) i3 B aq53 (bq53) hB (by omega) (by omega) s58 fun xq57 vq57 aq57 bq57 H lxq57 q57 s59 => ?_)
 have b_q57 := Fg q57 (by omega) (by omega)
 refine Dj (Ab (o' := 13) rfl (A8 s59 Do lxq57 rfl fun H s60 => Dj (Ab (o' := 16) rfl (Aq (c := sb (!(decide ((bits .and .i64 vq16 128) = 0)))) s60 (.here) rfl (Dn (Aa ((decide ((bits .and .i64 vq16 128) = 0))) (fun h61 => ?_) (fun h61 => ?_)))))))
 have dh61 := of_decide_eq_true h61
 refine Ax (nF h61) (Dj (Ab (o' := 18) rfl (Aq (c := sb (!(decide ((bits .and .i64 vq16 64) = 0)))) s60 (.here) rfl (Aa ((decide ((bits .and .i64 vq16 64) = 0))) (fun h62 => ?_) (fun h62 => ?_)))))
 have dh62 := of_decide_eq_true h62
 refine Ax (nF h62) (Av s60 (.here) rfl (Cm (cs' := [si (first / 16), bF, i0, bF, i0, sE, .nl, ss vq23, si vq12, sb (!(decide ((bits .and .i64 vq16 2) = 0))), si vq19, sb (!(decide ((bits .and .i64 vq16 4) = 0))), ss vq53, xq57, si (bits .and .i64 (vq16 / 8) 3), sb (!(decide ((bits .and .i64 vq16 32) = 0))), sb (!(decide ((bits .and .i64 vq16 128) = 0))), sE, sb (!(decide ((bits .and .i64 vq16 64) = 0))), .nl, i0, bF, .nl, .nl, .nl]) s60 Ww (Am (Ad rfl (Ad rfl (Ad rfl (Ad rfl (Ad rfl (Ad rfl (Ad rfl (Ad rfl (Ad rfl (Ad rfl (Ad rfl (Ad rfl (Ad rfl (Ad lxq57 rfl))))))))))))))) rfl (Cr rfl) rfl fun H s63 => Av s63 (.here) rfl (Ah (Ch s63 ⟨_, rfl, rfl⟩ (Eb (.nl (Eb (.own Do (G8 (.nl (.sc (.sc (.nl (.nl (.nl .nil))))))))))) (Ec ⟨(An ⟨_, _, rfl, rfl⟩), (Ec ⟨(Cg (Df vq57) (by decide)), (Ha ⟨(An ⟨_, _, rfl, rfl⟩), (Fi ⟨(An ⟨_, _, rfl, rfl⟩), ⟨(An ⟨_, _, rfl, rfl⟩), ⟨(An ⟨_, _, rfl, rfl⟩), trivial⟩⟩⟩)⟩)⟩)⟩)) ?_)))
 have e : D2 first B = (⟨(first / 16), false, 0, false, 0, ⟨#[]⟩, ⟨#[]⟩, vq23, vq12, (!(decide ((bits .and .i64 vq16 2) = 0))), vq19, (!(decide ((bits .and .i64 vq16 4) = 0))), vq53, vq57, (bits .and .i64 (vq16 / 8) 3), (!(decide ((bits .and .i64 vq16 32) = 0))), (!(decide ((bits .and .i64 vq16 128) = 0))), ⟨#[]⟩, (!(decide ((bits .and .i64 vq16 64) = 0))), ⟨#[]⟩, 0, false, [], [], []⟩ : PacketV) := by
  simp only [Cs] at h8
  unfold D2 Fh Gi; simp only [h8, h31, h61, h62, q9, q12, q16, q19, q23, q53, q57, if_true, if_false, or_true, or_false, false_or, true_or, zav, zaw, zaa, reduceIte]; simp [Bj, h8, h31, h61, h62]
 ·rw [e]
  first | done | rfl
 have dh62 := of_decide_eq_false h62
 refine Au (nT h62) ?_
 have s65 := s60.pick Do
 refine Ja rfl rfl (I7 (n + 3) (by omega) i3 B aq57 (bq57) hB (by omega) (by omega) s65 fun xq64 vq64 aq64 bq64 H lxq64 q64 s66 => ?_)
 have b_q64 := Fg q64 (by omega) (by omega)
 refine Dj (Ab (o' := 19) rfl (A8 s66 Do lxq64 rfl fun H s67 => Av s67 (.here) rfl (Cm (cs' := [si (first / 16), bF, i0, bF, i0, sE, .nl, ss vq23, si vq12, sb (!(decide ((bits .and .i64 vq16 2) = 0))), si vq19, sb (!(decide ((bits .and .i64 vq16 4) = 0))), ss vq53, xq57, si (bits .and .i64 (vq16 / 8) 3), sb (!(decide ((bits .and .i64 vq16 32) = 0))), sb (!(decide ((bits .and .i64 vq16 128) = 0))), sE, sb (!(decide ((bits .and .i64 vq16 64) = 0))), xq64, i0, bF, .nl, .nl, .nl]) s67 zP7 (Am (Ad rfl (Ad rfl (Ad rfl (Ad rfl (Ad rfl (Ad rfl (Ad rfl (Ad rfl (Ad rfl (Ad rfl (Ad rfl (Ad rfl (Ad rfl (Ad lxq57 (Ad rfl (Ad rfl (Ad rfl (Ad rfl (Ad rfl (Ad lxq64 rfl))))))))))))))))))))) rfl (Cr rfl) rfl fun H s68 => Av s68 (.here) rfl (Ah (Ch s68 ⟨_, rfl, rfl⟩ (Eb (.nl (Eb (.own Lt (G8 (.own Do (.sc (.sc (.nl (.nl (.nl .nil))))))))))) (Ec ⟨(An ⟨_, _, rfl, rfl⟩), (Ec ⟨(Cg (Df vq57) (by decide)), (Ha ⟨(Cg (Df vq64) (by decide)), (Fi ⟨(An ⟨_, _, rfl, rfl⟩), ⟨(An ⟨_, _, rfl, rfl⟩), ⟨(An ⟨_, _, rfl, rfl⟩), trivial⟩⟩⟩)⟩)⟩)⟩)) ?_))))
 have e : D2 first B = (⟨(first / 16), false, 0, false, 0, ⟨#[]⟩, ⟨#[]⟩, vq23, vq12, (!(decide ((bits .and .i64 vq16 2) = 0))), vq19, (!(decide ((bits .and .i64 vq16 4) = 0))), vq53, vq57, (bits .and .i64 (vq16 / 8) 3), (!(decide ((bits .and .i64 vq16 32) = 0))), (!(decide ((bits .and .i64 vq16 128) = 0))), ⟨#[]⟩, (!(decide ((bits .and .i64 vq16 64) = 0))), vq64, 0, false, [], [], []⟩ : PacketV) := by
  simp only [Cs] at h8
  unfold D2 Fh Gi; simp only [h8, h31, h61, h62, q9, q12, q16, q19, q23, q53, q57, q64, if_true, if_false, or_true, or_false, false_or, true_or, zav, zaw, zaa, reduceIte]; simp [Bj, h8, h31, h61, h62]
 ·rw [e]
  first | done | rfl
 have dh61 := of_decide_eq_false h61
 refine Au (nT h61) (Nr rfl rfl ?_)
 rw [Le, f101]
 try simp only [Gg]
 have s70 := s60.pick Do
 refine Ja rfl rfl (I7 (n + 2) (by omega) i3 B aq57 (bq57) hB (by omega) (by omega) s70 fun xq69 vq69 aq69 bq69 H lxq69 q69 s71 => ?_)
 have b_q69 := Fg q69 (by omega) (by omega)
 refine Ll s71 ⟨_, _, rfl, rfl, rfl, rfl⟩ (.here) (Dj (Ab (o' := 17) rfl (A8 s71 Do rfl rfl fun H s72 => Dj (Ab (o' := 18) rfl (Aq (c := sb (!(decide ((bits .and .i64 vq16 64) = 0)))) s72 (.here) rfl (Aa ((decide ((bits .and .i64 vq16 64) = 0))) (fun h73 => ?_) (fun h73 => ?_)))))))
 have dh73 := of_decide_eq_true h73
 refine Ax (nF h73) (Av s72 (.here) rfl (Cm (cs' := [si (first / 16), bF, i0, bF, i0, sE, .nl, ss vq23, si vq12, sb (!(decide ((bits .and .i64 vq16 2) = 0))), si vq19, sb (!(decide ((bits .and .i64 vq16 4) = 0))), ss vq53, xq57, si (bits .and .i64 (vq16 / 8) 3), sb (!(decide ((bits .and .i64 vq16 32) = 0))), sb (!(decide ((bits .and .i64 vq16 128) = 0))), ss vq69, sb (!(decide ((bits .and .i64 vq16 64) = 0))), .nl, i0, bF, .nl, .nl, .nl]) s72 zP7 (Am (Ad rfl (Ad rfl (Ad rfl (Ad rfl (Ad rfl (Ad rfl (Ad rfl (Ad rfl (Ad rfl (Ad rfl (Ad rfl (Ad rfl (Ad rfl (Ad lxq57 rfl))))))))))))))) rfl (Cr rfl) rfl fun H s74 => Av s74 (.here) rfl (Ah (Ch s74 ⟨_, rfl, rfl⟩ (Eb (.nl (Eb (.own Lt (G8 (.nl (.sc (.sc (.nl (.nl (.nl .nil))))))))))) (Ec ⟨(An ⟨_, _, rfl, rfl⟩), (Ec ⟨(Cg (Df vq57) (by decide)), (Ha ⟨(An ⟨_, _, rfl, rfl⟩), (Fi ⟨(An ⟨_, _, rfl, rfl⟩), ⟨(An ⟨_, _, rfl, rfl⟩), ⟨(An ⟨_, _, rfl, rfl⟩), trivial⟩⟩⟩)⟩)⟩)⟩)) ?_)))
 have e : D2 first B = (⟨(first / 16), false, 0, false, 0, ⟨#[]⟩, ⟨#[]⟩, vq23, vq12, (!(decide ((bits .and .i64 vq16 2) = 0))), vq19, (!(decide ((bits .and .i64 vq16 4) = 0))), vq53, vq57, (bits .and .i64 (vq16 / 8) 3), (!(decide ((bits .and .i64 vq16 32) = 0))), (!(decide ((bits .and .i64 vq16 128) = 0))), vq69, (!(decide ((bits .and .i64 vq16 64) = 0))), ⟨#[]⟩, 0, false, [], [], []⟩ : PacketV) := by
  simp only [Cs] at h8
  unfold D2 Fh Gi; simp only [h8, h31, h61, h73, q9, q12, q16, q19, q23, q53, q57, q69, if_true, if_false, or_true, or_false, false_or, true_or, zav, zaw, zaa, reduceIte]; simp [Bj, h8, h31, h61, h73]
 ·rw [e]
  first | done | rfl
 have dh73 := of_decide_eq_false h73
 refine Au (nT h73) ?_
 have s76 := s72.pick Do
 refine Ja rfl rfl (I7 (n + 3) (by omega) i3 B aq69 (bq69) hB (by omega) (by omega) s76 fun xq75 vq75 aq75 bq75 H lxq75 q75 s77 => ?_)
 have b_q75 := Fg q75 (by omega) (by omega)
 refine Dj (Ab (o' := 19) rfl (A8 s77 Do lxq75 rfl fun H s78 => Av s78 (.here) rfl (Cm (cs' := [si (first / 16), bF, i0, bF, i0, sE, .nl, ss vq23, si vq12, sb (!(decide ((bits .and .i64 vq16 2) = 0))), si vq19, sb (!(decide ((bits .and .i64 vq16 4) = 0))), ss vq53, xq57, si (bits .and .i64 (vq16 / 8) 3), sb (!(decide ((bits .and .i64 vq16 32) = 0))), sb (!(decide ((bits .and .i64 vq16 128) = 0))), ss vq69, sb (!(decide ((bits .and .i64 vq16 64) = 0))), xq75, i0, bF, .nl, .nl, .nl]) s78 zP8 (Am (Ad rfl (Ad rfl (Ad rfl (Ad rfl (Ad rfl (Ad rfl (Ad rfl (Ad rfl (Ad rfl (Ad rfl (Ad rfl (Ad rfl (Ad rfl (Ad lxq57 (Ad rfl (Ad rfl (Ad rfl (Ad rfl (Ad rfl (Ad lxq75 rfl))))))))))))))))))))) rfl (Cr rfl) rfl fun H s79 => Av s79 (.here) rfl (Ah (Ch s79 ⟨_, rfl, rfl⟩ (Eb (.nl (Eb (.own Uk (G8 (.own Do (.sc (.sc (.nl (.nl (.nl .nil))))))))))) (Ec ⟨(An ⟨_, _, rfl, rfl⟩), (Ec ⟨(Cg (Df vq57) (by decide)), (Ha ⟨(Cg (Df vq75) (by decide)), (Fi ⟨(An ⟨_, _, rfl, rfl⟩), ⟨(An ⟨_, _, rfl, rfl⟩), ⟨(An ⟨_, _, rfl, rfl⟩), trivial⟩⟩⟩)⟩)⟩)⟩)) ?_))))
 have e : D2 first B = (⟨(first / 16), false, 0, false, 0, ⟨#[]⟩, ⟨#[]⟩, vq23, vq12, (!(decide ((bits .and .i64 vq16 2) = 0))), vq19, (!(decide ((bits .and .i64 vq16 4) = 0))), vq53, vq57, (bits .and .i64 (vq16 / 8) 3), (!(decide ((bits .and .i64 vq16 32) = 0))), (!(decide ((bits .and .i64 vq16 128) = 0))), vq69, (!(decide ((bits .and .i64 vq16 64) = 0))), vq75, 0, false, [], [], []⟩ : PacketV) := by
  simp only [Cs] at h8
  unfold D2 Fh Gi; simp only [h8, h31, h61, h73, q9, q12, q16, q19, q23, q53, q57, q69, q75, if_true, if_false, or_true, or_false, false_or, true_or, zav, zaw, zaa, reduceIte]; simp [Bj, h8, h31, h61, h73]
 ·rw [e]
  first | done | rfl
 have dh8 := of_decide_eq_false h8
 refine Ax h8 (Bd (Aa ((decide ((first / 16) = 2))) (fun h80 => ?_) (fun h80 => ?_)))
 have dh80 := of_decide_eq_true h80
 refine Au h80 ?_
 have s82 := s7.pick C6
 refine Ja rfl rfl (Acf (n + 9) (by omega) i3 B 0 (false) hB (by omega) (by omega) s82 fun vq81 aq81 bq81 H q81 s83 => ?_)
 have b_q81 := On q81 (by omega) (by omega)
 refine Bd (Ab (o' := 21) rfl (A8 s83 C6 rfl rfl fun H s84 => ?_))
 have s86 := s84.pick C6
 refine Ja rfl rfl (Acf (n + 9) (by omega) i3 B aq81 (bq81) hB (by omega) (by omega) s86 fun vq85 aq85 bq85 H q85 s87 => ?_)
 have b_q85 := On q85 (by omega) (by omega)
 refine Ab (o' := 20) rfl (A8 s87 C6 rfl rfl fun H s88 => Av s88 (.here) rfl (Cm (cs' := [si (first / 16), bF, i0, bF, i0, sE, .nl, sE, i0, bF, i0, bF, sE, .nl, i0, bF, bF, sE, bF, .nl, si vq85, sb (decide (vq81 = 1)), .nl, .nl, .nl]) s88 Do (Am rfl) rfl (Cr rfl) rfl fun H s89 => Av s89 (.here) rfl (Ah (Ch s89 ⟨_, rfl, rfl⟩ (Eb (.nl (Eb (.nl (G8 (.nl (.sc (.sc (.nl (.nl (.nl .nil))))))))))) (Ec ⟨(An ⟨_, _, rfl, rfl⟩), (Ec ⟨(An ⟨_, _, rfl, rfl⟩), (Ha ⟨(An ⟨_, _, rfl, rfl⟩), (Fi ⟨(An ⟨_, _, rfl, rfl⟩), ⟨(An ⟨_, _, rfl, rfl⟩), ⟨(An ⟨_, _, rfl, rfl⟩), trivial⟩⟩⟩)⟩)⟩)⟩)) ?_)))
 have e : D2 first B = (⟨(first / 16), false, 0, false, 0, ⟨#[]⟩, ⟨#[]⟩, ⟨#[]⟩, 0, false, 0, false, ⟨#[]⟩, ⟨#[]⟩, 0, false, false, ⟨#[]⟩, false, ⟨#[]⟩, vq85, (decide (vq81 = 1)), [], [], []⟩ : PacketV) := by
  simp only [Cs] at h8 h80
  unfold D2 Fh Gi; simp only [h8, h80, q81, q85, if_true, if_false, or_true, or_false, false_or, true_or, zav, zaw, zaa, reduceIte]; simp [Bj, h8, h80]
 ·rw [e]
  first | done | rfl
 have dh80 := of_decide_eq_false h80
 refine Ax h80 (Bd (Aa ((decide ((first / 16) = 3))) (fun h90 => ?_) (fun h90 => ?_)))
 have dh90 := of_decide_eq_true h90
 refine Au h90 (Gj rfl (Lh (Rj 2 rfl (by decide) (Gj rfl (Gj rfl (Lh (Ab (o' := 1) rfl (A8 s7 (.here) rfl rfl fun H s91 => Ab (o' := 2) rfl (A8 s91 (.here) rfl rfl fun H s92 => Ab (o' := 3) rfl (A8 s92 (.here) rfl rfl fun H s93 => Nr rfl rfl ?_))))))))))
 rw [Le, f101]
 try simp only [Gg]
 have s95 := s93.pick C6
 refine Ja rfl rfl (I7 (n + 3) (by omega) i3 B 0 (false) hB (by omega) (by omega) s95 fun xq94 vq94 aq94 bq94 H lxq94 q94 s96 => ?_)
 have b_q94 := Fg q94 (by omega) (by omega)
 refine Ll s96 ⟨_, _, rfl, rfl, rfl, rfl⟩ (.here) (Ab (o' := 5) rfl (A8 s96 Do rfl rfl fun H s97 => Ab (o' := 2) rfl (Aq (c := si (bits .and .i64 (first / 2) 3)) s97 (.here) rfl (Eo (Dn (Aa ((decide (0 < (bits .and .i64 (first / 2) 3)))) (fun h98 => ?_) (fun h98 => ?_)))))))
 have dh98 := of_decide_eq_true h98
 refine Au h98 ?_
 have s100 := s97.pick Do
 refine Ja rfl rfl (Ae3 (n + 8) (by omega) i3 B aq94 (bq94) hB (by omega) (by omega) s100 fun vq99 aq99 bq99 H q99 s101 => ?_)
 have b_q99 := Q9 q99 (by omega) (by omega)
 refine Ab (o' := 4) rfl (A8 s101 C6 rfl rfl fun H s102 => Dj (Ab (o' := 2) rfl (Aq (c := sb bq99) s102 C6 rfl (C5 (Aa (bq99) (fun h103 => ?_) (fun h103 => ?_))))))
 refine Ax (nF h103) (Av s102 (.here) rfl (Cm (cs' := [si (first / 16), sb (!(decide ((bits .and .i64 first 8) = 0))), si (bits .and .i64 (first / 2) 3), sb (!(decide ((bits .and .i64 first 1) = 0))), si vq99, ss vq94, .nl, sE, i0, bF, i0, bF, sE, .nl, i0, bF, bF, sE, bF, .nl, i0, bF, .nl, .nl, .nl]) s102 Ls (Am rfl) rfl (Cr rfl) rfl fun H s104 => Av s104 (.here) rfl (Ah (Ch s104 ⟨_, rfl, rfl⟩ (Eb (.nl (Eb (.nl (G8 (.nl (.sc (.sc (.nl (.nl (.nl .nil))))))))))) (Ec ⟨(An ⟨_, _, rfl, rfl⟩), (Ec ⟨(An ⟨_, _, rfl, rfl⟩), (Ha ⟨(An ⟨_, _, rfl, rfl⟩), (Fi ⟨(An ⟨_, _, rfl, rfl⟩), ⟨(An ⟨_, _, rfl, rfl⟩), ⟨(An ⟨_, _, rfl, rfl⟩), trivial⟩⟩⟩)⟩)⟩)⟩)) ?_)))
 have e : D2 first B = (⟨(first / 16), (!(decide ((bits .and .i64 first 8) = 0))), (bits .and .i64 (first / 2) 3), (!(decide ((bits .and .i64 first 1) = 0))), vq99, vq94, ⟨#[]⟩, ⟨#[]⟩, 0, false, 0, false, ⟨#[]⟩, ⟨#[]⟩, 0, false, false, ⟨#[]⟩, false, ⟨#[]⟩, 0, false, [], [], []⟩ : PacketV) := by
  simp only [Cs] at h8 h80 h90 h98
  unfold D2 Fh Gi; simp only [h8, h80, h90, h98, h103, q94, q99, if_true, if_false, or_true, or_false, false_or, true_or, zav, zaw, zaa, reduceIte]; simp [Bj, h8, h80, h90, h98, h103]
 ·rw [e]
  first | done | rfl
 refine Au (nT h103) (Dj (Ab (o' := 1) rfl (Aq (c := si aq99) s102 C6 rfl (Gl aq99 ((B.size : Nat) : Int) rfl rfl (by omega) (by omega) (by omega) ?_))))
 have z105 := zau (a := B) (b := aq99.toNat) (e := ((B.size : Nat) : Int).toNat)
 refine Bh (cs := [Ai (B.extract aq99.toNat ((B.size : Nat) : Int).toNat)]) rfl (Ct s102 fun i106 H s107 => Cl s107 rfl (.sl (.here) rfl (.cons .ro .nil) .nil) (L5 (n + 6) (by omega) (B.extract aq99.toNat ((B.size : Nat) : Int).toNat) (by omega)) (Df (B.extract aq99.toNat ((B.size : Nat) : Int).toNat)) fun x108 H lx108 s109 => Ab (o' := 6) rfl (A8 s109 Do lx108 rfl fun H s110 => Av s110 (.here) rfl (Cm (cs' := [si (first / 16), sb (!(decide ((bits .and .i64 first 8) = 0))), si (bits .and .i64 (first / 2) 3), sb (!(decide ((bits .and .i64 first 1) = 0))), si vq99, ss vq94, x108, sE, i0, bF, i0, bF, sE, .nl, i0, bF, bF, sE, bF, .nl, i0, bF, .nl, .nl, .nl]) s110 Uk (Am (Ad rfl (Ad rfl (Ad rfl (Ad rfl (Ad rfl (Ad rfl (Ad lx108 rfl)))))))) rfl (Cr rfl) rfl fun H s111 => Av s111 (.here) rfl (Ah (Ch s111 ⟨_, rfl, rfl⟩ (Eb (.own Do (Eb (.nl (G8 (.nl (.sc (.sc (.nl (.nl (.nl .nil))))))))))) (Ec ⟨(Cg (Df (B.extract aq99.toNat ((B.size : Nat) : Int).toNat)) (by decide)), (Ec ⟨(An ⟨_, _, rfl, rfl⟩), (Ha ⟨(An ⟨_, _, rfl, rfl⟩), (Fi ⟨(An ⟨_, _, rfl, rfl⟩), ⟨(An ⟨_, _, rfl, rfl⟩), ⟨(An ⟨_, _, rfl, rfl⟩), trivial⟩⟩⟩)⟩)⟩)⟩)) ?_))))
 have e : D2 first B = (⟨(first / 16), (!(decide ((bits .and .i64 first 8) = 0))), (bits .and .i64 (first / 2) 3), (!(decide ((bits .and .i64 first 1) = 0))), vq99, vq94, (B.extract aq99.toNat ((B.size : Nat) : Int).toNat), ⟨#[]⟩, 0, false, 0, false, ⟨#[]⟩, ⟨#[]⟩, 0, false, false, ⟨#[]⟩, false, ⟨#[]⟩, 0, false, [], [], []⟩ : PacketV) := by
  simp only [Cs] at h8 h80 h90 h98
  unfold D2 Fh Gi; simp only [h8, h80, h90, h98, h103, q94, q99, if_true, if_false, or_true, or_false, false_or, true_or, zav, zaw, zaa, reduceIte]; simp [Bj, h8, h80, h90, h98, h103]
 ·rw [e]
  first | done | rfl
 have dh98 := of_decide_eq_false h98
 refine Ax h98 (Dj (Ab (o' := 2) rfl (Aq (c := sb bq94) s97 Do rfl (C5 (Aa (bq94) (fun h112 => ?_) (fun h112 => ?_))))))
 refine Ax (nF h112) (Av s97 (.here) rfl (Cm (cs' := [si (first / 16), sb (!(decide ((bits .and .i64 first 8) = 0))), si (bits .and .i64 (first / 2) 3), sb (!(decide ((bits .and .i64 first 1) = 0))), i0, ss vq94, .nl, sE, i0, bF, i0, bF, sE, .nl, i0, bF, bF, sE, bF, .nl, i0, bF, .nl, .nl, .nl]) s97 Ls (Am rfl) rfl (Cr rfl) rfl fun H s113 => Av s113 (.here) rfl (Ah (Ch s113 ⟨_, rfl, rfl⟩ (Eb (.nl (Eb (.nl (G8 (.nl (.sc (.sc (.nl (.nl (.nl .nil))))))))))) (Ec ⟨(An ⟨_, _, rfl, rfl⟩), (Ec ⟨(An ⟨_, _, rfl, rfl⟩), (Ha ⟨(An ⟨_, _, rfl, rfl⟩), (Fi ⟨(An ⟨_, _, rfl, rfl⟩), ⟨(An ⟨_, _, rfl, rfl⟩), ⟨(An ⟨_, _, rfl, rfl⟩), trivial⟩⟩⟩)⟩)⟩)⟩)) ?_)))
 have e : D2 first B = (⟨(first / 16), (!(decide ((bits .and .i64 first 8) = 0))), (bits .and .i64 (first / 2) 3), (!(decide ((bits .and .i64 first 1) = 0))), 0, vq94, ⟨#[]⟩, ⟨#[]⟩, 0, false, 0, false, ⟨#[]⟩, ⟨#[]⟩, 0, false, false, ⟨#[]⟩, false, ⟨#[]⟩, 0, false, [], [], []⟩ : PacketV) := by
  simp only [Cs] at h8 h80 h90 h98
  unfold D2 Fh Gi; simp only [h8, h80, h90, h98, h112, q94, if_true, if_false, or_true, or_false, false_or, true_or, zav, zaw, zaa, reduceIte]; simp [Bj, h8, h80, h90, h98, h112]
 ·rw [e]
  first | done | rfl
 refine Au (nT h112) (Dj (Ab (o' := 1) rfl (Aq (c := si aq94) s97 Do rfl (Gl aq94 ((B.size : Nat) : Int) rfl rfl (by omega) (by omega) (by omega) ?_))))
 have z114 := zau (a := B) (b := aq94.toNat) (e := ((B.size : Nat) : Int).toNat)
 refine Bh (cs := [Ai (B.extract aq94.toNat ((B.size : Nat) : Int).toNat)]) rfl (Ct s97 fun i115 H s116 => Cl s116 rfl (.sl (.here) rfl (.cons .ro .nil) .nil) (L5 (n + 6) (by omega) (B.extract aq94.toNat ((B.size : Nat) : Int).toNat) (by omega)) (Df (B.extract aq94.toNat ((B.size : Nat) : Int).toNat)) fun x117 H lx117 s118 => Ab (o' := 6) rfl (A8 s118 Do lx117 rfl fun H s119 => Av s119 (.here) rfl (Cm (cs' := [si (first / 16), sb (!(decide ((bits .and .i64 first 8) = 0))), si (bits .and .i64 (first / 2) 3), sb (!(decide ((bits .and .i64 first 1) = 0))), i0, ss vq94, x117, sE, i0, bF, i0, bF, sE, .nl, i0, bF, bF, sE, bF, .nl, i0, bF, .nl, .nl, .nl]) s119 Uk (Am (Ad rfl (Ad rfl (Ad rfl (Ad rfl (Ad rfl (Ad rfl (Ad lx117 rfl)))))))) rfl (Cr rfl) rfl fun H s120 => Av s120 (.here) rfl (Ah (Ch s120 ⟨_, rfl, rfl⟩ (Eb (.own Do (Eb (.nl (G8 (.nl (.sc (.sc (.nl (.nl (.nl .nil))))))))))) (Ec ⟨(Cg (Df (B.extract aq94.toNat ((B.size : Nat) : Int).toNat)) (by decide)), (Ec ⟨(An ⟨_, _, rfl, rfl⟩), (Ha ⟨(An ⟨_, _, rfl, rfl⟩), (Fi ⟨(An ⟨_, _, rfl, rfl⟩), ⟨(An ⟨_, _, rfl, rfl⟩), ⟨(An ⟨_, _, rfl, rfl⟩), trivial⟩⟩⟩)⟩)⟩)⟩)) ?_))))
 have e : D2 first B = (⟨(first / 16), (!(decide ((bits .and .i64 first 8) = 0))), (bits .and .i64 (first / 2) 3), (!(decide ((bits .and .i64 first 1) = 0))), 0, vq94, (B.extract aq94.toNat ((B.size : Nat) : Int).toNat), ⟨#[]⟩, 0, false, 0, false, ⟨#[]⟩, ⟨#[]⟩, 0, false, false, ⟨#[]⟩, false, ⟨#[]⟩, 0, false, [], [], []⟩ : PacketV) := by
  simp only [Cs] at h8 h80 h90 h98
  unfold D2 Fh Gi; simp only [h8, h80, h90, h98, h112, q94, if_true, if_false, or_true, or_false, false_or, true_or, zav, zaw, zaa, reduceIte]; simp [Bj, h8, h80, h90, h98, h112]
 ·rw [e]
  first | done | rfl
 have dh90 := of_decide_eq_false h90
 refine Ax h90 (Bd (Dn (Aa ((decide ((first / 16) = 12))) (fun h121 => ?_) (fun h121 => ?_))))
 have dh121 := of_decide_eq_true h121
 refine Au h121 (Au h121 (Av s7 (.here) rfl (Cm (cs' := [si (first / 16), bF, i0, bF, i0, sE, .nl, sE, i0, bF, i0, bF, sE, .nl, i0, bF, bF, sE, bF, .nl, i0, bF, .nl, .nl, .nl]) s7 Do (Am rfl) rfl (Cr rfl) rfl fun H s122 => Av s122 (.here) rfl (Ah (Ch s122 ⟨_, rfl, rfl⟩ (Eb (.nl (Eb (.nl (G8 (.nl (.sc (.sc (.nl (.nl (.nl .nil))))))))))) (Ec ⟨(An ⟨_, _, rfl, rfl⟩), (Ec ⟨(An ⟨_, _, rfl, rfl⟩), (Ha ⟨(An ⟨_, _, rfl, rfl⟩), (Fi ⟨(An ⟨_, _, rfl, rfl⟩), ⟨(An ⟨_, _, rfl, rfl⟩), ⟨(An ⟨_, _, rfl, rfl⟩), trivial⟩⟩⟩)⟩)⟩)⟩)) ?_))))
 have e : D2 first B = (⟨(first / 16), false, 0, false, 0, ⟨#[]⟩, ⟨#[]⟩, ⟨#[]⟩, 0, false, 0, false, ⟨#[]⟩, ⟨#[]⟩, 0, false, false, ⟨#[]⟩, false, ⟨#[]⟩, 0, false, [], [], []⟩ : PacketV) := by
  simp only [Cs] at h8 h80 h90 h121
  unfold D2 Fh Gi; simp only [h8, h80, h90, h121, if_true, if_false, or_true, or_false, false_or, true_or, zav, zaw, zaa, reduceIte]; simp [Bj, h8, h80, h90, h121]
 ·rw [e]
  first | done | rfl
 have dh121 := of_decide_eq_false h121
 refine Ax h121 (Bd (Aa ((decide ((first / 16) = 13))) (fun h123 => ?_) (fun h123 => ?_)))
 have dh123 := of_decide_eq_true h123
 refine Au h123 (Au h123 (Av s7 (.here) rfl (Cm (cs' := [si (first / 16), bF, i0, bF, i0, sE, .nl, sE, i0, bF, i0, bF, sE, .nl, i0, bF, bF, sE, bF, .nl, i0, bF, .nl, .nl, .nl]) s7 Do (Am rfl) rfl (Cr rfl) rfl fun H s124 => Av s124 (.here) rfl (Ah (Ch s124 ⟨_, rfl, rfl⟩ (Eb (.nl (Eb (.nl (G8 (.nl (.sc (.sc (.nl (.nl (.nl .nil))))))))))) (Ec ⟨(An ⟨_, _, rfl, rfl⟩), (Ec ⟨(An ⟨_, _, rfl, rfl⟩), (Ha ⟨(An ⟨_, _, rfl, rfl⟩), (Fi ⟨(An ⟨_, _, rfl, rfl⟩), ⟨(An ⟨_, _, rfl, rfl⟩), ⟨(An ⟨_, _, rfl, rfl⟩), trivial⟩⟩⟩)⟩)⟩)⟩)) ?_))))
 have e : D2 first B = (⟨(first / 16), false, 0, false, 0, ⟨#[]⟩, ⟨#[]⟩, ⟨#[]⟩, 0, false, 0, false, ⟨#[]⟩, ⟨#[]⟩, 0, false, false, ⟨#[]⟩, false, ⟨#[]⟩, 0, false, [], [], []⟩ : PacketV) := by
  simp only [Cs] at h8 h80 h90 h121 h123
  unfold D2 Fh Gi; simp only [h8, h80, h90, h121, h123, if_true, if_false, or_true, or_false, false_or, true_or, zav, zaw, zaa, reduceIte]; simp [Bj, h8, h80, h90, h121, h123]
 ·rw [e]
  first | done | rfl
 have dh123 := of_decide_eq_false h123
 refine Ax h123 (Bd (Aa ((decide ((first / 16) = 14))) (fun h125 => ?_) (fun h125 => ?_)))
 have dh125 := of_decide_eq_true h125
 refine Au h125 (Av s7 (.here) rfl (Cm (cs' := [si (first / 16), bF, i0, bF, i0, sE, .nl, sE, i0, bF, i0, bF, sE, .nl, i0, bF, bF, sE, bF, .nl, i0, bF, .nl, .nl, .nl]) s7 Do (Am rfl) rfl (Cr rfl) rfl fun H s126 => Av s126 (.here) rfl (Ah (Ch s126 ⟨_, rfl, rfl⟩ (Eb (.nl (Eb (.nl (G8 (.nl (.sc (.sc (.nl (.nl (.nl .nil))))))))))) (Ec ⟨(An ⟨_, _, rfl, rfl⟩), (Ec ⟨(An ⟨_, _, rfl, rfl⟩), (Ha ⟨(An ⟨_, _, rfl, rfl⟩), (Fi ⟨(An ⟨_, _, rfl, rfl⟩), ⟨(An ⟨_, _, rfl, rfl⟩), ⟨(An ⟨_, _, rfl, rfl⟩), trivial⟩⟩⟩)⟩)⟩)⟩)) ?_)))
 have e : D2 first B = (⟨(first / 16), false, 0, false, 0, ⟨#[]⟩, ⟨#[]⟩, ⟨#[]⟩, 0, false, 0, false, ⟨#[]⟩, ⟨#[]⟩, 0, false, false, ⟨#[]⟩, false, ⟨#[]⟩, 0, false, [], [], []⟩ : PacketV) := by
  simp only [Cs] at h8 h80 h90 h121 h123 h125
  unfold D2 Fh Gi; simp only [h8, h80, h90, h121, h123, h125, if_true, if_false, or_true, or_false, false_or, true_or, zav, zaw, zaa, reduceIte]; simp [Bj, h8, h80, h90, h121, h123, h125]
 ·rw [e]
  first | done | rfl
 have dh125 := of_decide_eq_false h125
 refine Ax h125 ?_
 have s128 := s7.pick C6
 refine Ja rfl rfl (Ae3 (n + 8) (by omega) i3 B 0 (false) hB (by omega) (by omega) s128 fun vq127 aq127 bq127 H q127 s129 => ?_)
 have b_q127 := Q9 q127 (by omega) (by omega)
 refine Ab (o' := 4) rfl (A8 s129 C6 rfl rfl fun H s130 => Nr rfl rfl ?_)
 rw [AeN, f103]
 have s131 := s130.nl (ty := 56) ⟨_, _, rfl, rfl⟩
 have s132 := s131.nl (ty := 57) ⟨_, _, rfl, rfl⟩
 have s133 := s132.nl (ty := 55) ⟨_, _, rfl, rfl⟩
 have s135a := s133.sel (.cons .here (.cons .here (.cons .here (.cons C6 (.cons (.here) .rest)))))
 refine Te (n + 1) (by omega) (first / 16) B i3 i5 vq127 hB _ 8 _ aq127 bq127 [] [] [] .nl .nl .nl _ (by omega) (Or.inr (by decide)) (by decide) (by omega) (by omega) rfl rfl rfl s135a fun wq134 cq134 nq134 aq134 bq134 H lwq134 lcq134 lnq134 s135 => Av s135 Lt rfl (Cm (cs' := [si (first / 16), bF, i0, bF, si vq127, sE, .nl, sE, i0, bF, i0, bF, sE, .nl, i0, bF, bF, sE, bF, .nl, i0, bF, wq134, nq134, cq134]) s135 Uk (Am (Ad rfl (Ad rfl (Ad rfl (Ad rfl (Ad rfl (Ad rfl (Ad rfl (Ad rfl (Ad rfl (Ad rfl (Ad rfl (Ad rfl (Ad rfl (Ad rfl (Ad rfl (Ad rfl (Ad rfl (Ad rfl (Ad rfl (Ad rfl (Ad rfl (Ad rfl (Ad lwq134 (Ad lnq134 (Ad lcq134 rfl)))))))))))))))))))))))))) rfl (Cr rfl) rfl fun H s136 => Av s136 (.here) rfl (Ah (Ch s136 ⟨_, rfl, rfl⟩ (Eb (.nl (Eb (.nl (G8 (.nl (.sc (.sc (.own C6 (.own Do (.own C6 .nil))))))))))) (Ec ⟨(An ⟨_, _, rfl, rfl⟩), (Ec ⟨(An ⟨_, _, rfl, rfl⟩), (Ha ⟨(An ⟨_, _, rfl, rfl⟩), (Fi ⟨(Cg (Kf ((Cp (first / 16) B 8 (aq127, bq127) [] [] []).1)) (by decide)), ⟨(Cg (Tj ((Cp (first / 16) B 8 (aq127, bq127) [] [] []).2.2)) (by decide)), ⟨(Cg (Wf ((Cp (first / 16) B 8 (aq127, bq127) [] [] []).2.1)) (by decide)), trivial⟩⟩⟩)⟩)⟩)⟩)) ?_))
 have e : D2 first B = (⟨(first / 16), false, 0, false, vq127, ⟨#[]⟩, ⟨#[]⟩, ⟨#[]⟩, 0, false, 0, false, ⟨#[]⟩, ⟨#[]⟩, 0, false, false, ⟨#[]⟩, false, ⟨#[]⟩, 0, false, ((Cp (first / 16) B 8 (aq127, bq127) [] [] []).1), (Cp (first / 16) B 8 (aq127, bq127) [] [] []).2.2, (Cp (first / 16) B 8 (aq127, bq127) [] [] []).2.1⟩ : PacketV) := by
  simp only [Cs] at h8 h80 h90 h121 h123 h125
  unfold D2 Fh Gi; simp only [h8, h80, h90, h121, h123, h125, q127, if_true, if_false, or_true, or_false, false_or, true_or, zav, zaw, zaa, reduceIte]; simp [Bj, h8, h80, h90, h121, h123, h125]
 ·rw [e]
  first | done | rfl
end
section
open Go
theorem Aab (n : Nat) (hn : 1048576 < n) (B : ByteArray) (hB : B.size ≤ 1048576) : Di E0 (n + 6) 59 86 [Ai B] = some (.agg (A0 (A1 B))) := by
 rw [Be, Ah7, f86]
 refine C7 (G := (· = some (.agg (A0 (A1 B))))) ?_
 try simp only [Fk, Bx, A9, Dz, A5, D8, Aw, Bg, Pr.gT, Pr.gF, Pr.hT, Pr.hF, Pr.kT, Pr.kF, Bv, B3, Bw, C2, Dm, Hr]
 have s0 : Sep [] [] := C1
 refine Hw s0 fun i1 H s2 => Bh (cs := [si 1, bF, i0, bF, i0, sE, .nl, sE, i0, bF, i0, bF, sE, .nl, i0, bF, bF, sE, bF, .nl, i0, bF, .nl, .nl, .nl]) rfl (Hw s2 fun i3 H s4 => Cm (cs' := [si 1, bF, i0, bF, i0, sE, .nl, sE, i0, bF, i0, bF, sE, .nl, i0, bF, bF, sE, bF, .nl, i0, bF, .nl, .nl, .nl]) s4 (.here) (Am rfl) rfl (Cr rfl) rfl fun H s5 => ?_)
 obtain ⟨vq6, yq6, oq6, q6⟩ : ∃ w y o, Ce B 0 = (w, y, o) := ⟨_, _, _, rfl⟩
 have bq6 := Gp q6
 refine Ek s5 rfl (.cons .ro (.cons .sc .nil)) (by have h := Kg n (by omega) B 0 (by omega) (by omega); rw [q6] at h; exact h) rfl (Bk (Bk (Bk Eh))) ?_
 rintro _ _ H ⟨_, rfl, ⟨_, rfl, ⟨_, rfl, ⟨rfl, rfl⟩⟩⟩⟩ s7
 simp only [zak] at s7
 refine Bs (v := ss vq6) rfl (Bs (v := si yq6) rfl (Bs (v := sb oq6) rfl (C5 (Aa (oq6) (fun h8 => ?_) (fun h8 => ?_)))))
 refine Af (nF h8) (Af (nF h8) (Qs (A6 (nF h8) (Aa ((vq6.toList == (⟨#[77, 81, 84, 84]⟩ : ByteArray).toList)) (fun h9 => ?_) (fun h9 => ?_)))))
 refine Af (nF h9) (Af (nF h9) (Af (nF h9) (C4 (Af (nF h9) (Nt (by omega) (by omega) (Af (nF h9) (Eo (A6 (nF h9) (Aa ((decide ((((B.size : Nat) : Int) - 2) < yq6))) (fun h10 => ?_) (fun h10 => ?_))))))))))
 have dh10 := of_decide_eq_true h10
 refine Au h10 (Bh (cs := Ez) rfl (Cm (cs' := Ez) s7 C6 (Am rfl) rfl (Cr rfl) rfl fun H s11 => Av s11 (.here) rfl (Ah (Ch s11 ⟨_, rfl, rfl⟩ (Eb (.nl (Eb (.nl (G8 (.nl (.sc (.sc (.nl (.nl (.nl .nil))))))))))) (Ec ⟨(An ⟨_, _, rfl, rfl⟩), (Ec ⟨(An ⟨_, _, rfl, rfl⟩), (Ha ⟨(An ⟨_, _, rfl, rfl⟩), (Fi ⟨(An ⟨_, _, rfl, rfl⟩), ⟨(An ⟨_, _, rfl, rfl⟩), ⟨(An ⟨_, _, rfl, rfl⟩), trivial⟩⟩⟩)⟩)⟩)⟩)) ?_)))
 have e : A1 B = (⟨0, false, 0, false, 0, ⟨#[]⟩, ⟨#[]⟩, ⟨#[]⟩, 0, false, 0, false, ⟨#[]⟩, ⟨#[]⟩, 0, false, false, ⟨#[]⟩, false, ⟨#[]⟩, 0, false, [], [], []⟩ : PacketV) := by
  unfold A1 Hj G7 G6 El G5 F5; simp only [h8, h9, h10, q6, if_true, if_false, or_true, or_false, false_or, true_or, zaa, reduceIte, mqtt, Ay]; first | done | rfl | (simp [Bj, h8, h9, h10]; done)
 ·rw [e]
  first | done | rfl
 have dh10 := of_decide_eq_false h10
 refine Ax h10 ?_
 have w12 := Ed B yq6
 refine Gk (by omega) (by omega) fun _ => Fc (c := su (A7 B yq6)) rfl (Jz (by omega) (by omega) (Ab (o' := 8) rfl (A8 s7 (.here) rfl rfl fun H s13 => Ca (by omega) (by omega) ?_)))
 have w14 := Ed B (yq6 + 1)
 refine Gk (by omega) (by omega) fun _ => Fc (c := su (A7 B (yq6 + 1))) rfl (Jz (by omega) (by omega) (Gj rfl (Eo (Ab (o' := 9) rfl (A8 s13 (.here) rfl rfl fun H s15 => Gj rfl (Eo (Ab (o' := 11) rfl (A8 s15 (.here) rfl rfl fun H s16 => Rj 8 rfl (by decide) (Gj rfl (Ab (o' := 14) rfl (A8 s16 (.here) rfl rfl fun H s17 => Gj rfl (Eo (Ab (o' := 15) rfl (A8 s17 (.here) rfl rfl fun H s18 => Gj rfl (Eo (Ab (o' := 18) rfl (A8 s18 (.here) rfl rfl fun H s19 => Gj rfl (Eo (Ab (o' := 16) rfl (A8 s19 (.here) rfl rfl fun H s20 => Ca (by omega) (by omega) ?_))))))))))))))))))))
 obtain ⟨wq21, yq21, oq21, q21⟩ : ∃ w y o, Br B (yq6 + 2) = (w, y, o) := ⟨_, _, _, rfl⟩
 have bq21 := F1 q21
 refine Ek s20 rfl (.cons .ro (.cons .sc .nil)) (by have h := Om (n + 4) (by omega) B (yq6 + 2) (by omega) (by omega); rw [q21] at h; exact h) rfl (Bk (Bk (Bk Eh))) ?_
 rintro _ _ H ⟨_, rfl, ⟨_, rfl, ⟨_, rfl, ⟨rfl, rfl⟩⟩⟩⟩ s22
 simp only [zak] at s22
 refine Bs (v := si wq21) rfl (Bs (v := si yq21) rfl (Bs (v := sb oq21) rfl (Ab (o' := 10) rfl (A8 s22 (.here) rfl rfl fun H s23 => ?_))))
 obtain ⟨vq24, yq24, oq24, q24⟩ : ∃ w y o, Ce B yq21 = (w, y, o) := ⟨_, _, _, rfl⟩
 have bq24 := Gp q24
 refine Ek s23 rfl (.cons .ro (.cons .sc .nil)) (by have h := Kg n (by omega) B yq21 (by omega) (by omega); rw [q24] at h; exact h) rfl (Bk (Bk (Bk Eh))) ?_
 rintro _ _ H ⟨_, rfl, ⟨_, rfl, ⟨_, rfl, ⟨rfl, rfl⟩⟩⟩⟩ s25
 simp only [zak] at s25
 refine Bs (v := ss vq24) rfl (Bs (v := si yq24) rfl (Bs (v := sb oq24) rfl (Ab (o' := 7) rfl (A8 s25 (.here) rfl rfl fun H s26 => C5 (Aa (oq21) (fun h27 => ?_) (fun h27 => ?_))))))
 refine Af (nF h27) (Af (nF h27) (C5 (A6 (nF h27) (Aa (oq24) (fun h28 => ?_) (fun h28 => ?_)))))
 refine Ax (nF h28) (Ab (o' := 11) rfl (Aq (c := .sc (.bool (decide (0 < (bits .and .i64 (A7 B (yq6 + 1)) 4))))) s26 (.here) rfl (Dn (Aa ((decide (0 < (bits .and .i64 (A7 B (yq6 + 1)) 4)))) (fun h29 => ?_) (fun h29 => ?_)))))
 have dh29 := of_decide_eq_true h29
 refine Au h29 ?_
 obtain ⟨vq30, yq30, oq30, q30⟩ : ∃ w y o, Ce B yq24 = (w, y, o) := ⟨_, _, _, rfl⟩
 have bq30 := Gp q30
 refine Ek s26 rfl (.cons .ro (.cons .sc .nil)) (by have h := Kg n (by omega) B yq24 (by omega) (by omega); rw [q30] at h; exact h) rfl (Bk (Bk (Bk Eh))) ?_
 rintro _ _ H ⟨_, rfl, ⟨_, rfl, ⟨_, rfl, ⟨rfl, rfl⟩⟩⟩⟩ s31
 simp only [zak] at s31
 refine Bs (v := ss vq30) rfl (Bs (v := si yq30) rfl (Bs (v := sb oq30) rfl ?_))
 obtain ⟨vq32, yq32, oq32, q32⟩ : ∃ w y o, Bl B yq30 = (w, y, o) := ⟨_, _, _, rfl⟩
 have bq32 := Fj q32
 refine Ek s31 rfl (.cons .ro (.cons .sc .nil)) (by have h := Ol (n + 3) (by omega) B yq30 (by omega) (by omega); rw [q32] at h; exact h) rfl (Jd (ty := 22) rfl (Df vq32) (Bk (Bk Eh))) ?_
 rintro _ _ H ⟨x33, _, _, lx33, rfl, rfl, ⟨_, rfl, ⟨_, rfl, ⟨rfl, rfl⟩⟩⟩⟩ s34
 simp only [zak, za0] at s34
 refine Bs (v := x33) rfl (Bs (v := si yq32) rfl (Bs (v := sb oq32) rfl (C5 (Aa (oq30) (fun h35 => ?_) (fun h35 => ?_)))))
 refine Af (nF h35) (Af (nF h35) (C5 (A6 (nF h35) (Aa (oq32) (fun h36 => ?_) (fun h36 => ?_)))))
 refine Ax (nF h36) (Ab (o' := 12) rfl (A8 s34 C6 rfl rfl fun H s37 => Ab (o' := 13) rfl (A8 s37 (.here) lx33 rfl fun H s38 => Ab (o' := 16) rfl (Aq (c := .sc (.bool (decide (0 < (bits .and .i64 (A7 B (yq6 + 1)) 128))))) s38 (.here) rfl (Dn (Aa ((decide (0 < (bits .and .i64 (A7 B (yq6 + 1)) 128)))) (fun h39 => ?_) (fun h39 => ?_)))))))
 have dh39 := of_decide_eq_true h39
 refine Au h39 ?_
 obtain ⟨vq40, yq40, oq40, q40⟩ : ∃ w y o, Ce B yq32 = (w, y, o) := ⟨_, _, _, rfl⟩
 have bq40 := Gp q40
 refine Ek s38 rfl (.cons .ro (.cons .sc .nil)) (by have h := Kg n (by omega) B yq32 (by omega) (by omega); rw [q40] at h; exact h) rfl (Bk (Bk (Bk Eh))) ?_
 rintro _ _ H ⟨_, rfl, ⟨_, rfl, ⟨_, rfl, ⟨rfl, rfl⟩⟩⟩⟩ s41
 simp only [zak] at s41
 refine Bs (v := ss vq40) rfl (Bs (v := si yq40) rfl (Bs (v := sb oq40) rfl (C5 (Aa (oq40) (fun h42 => ?_) (fun h42 => ?_)))))
 refine Ax (nF h42) (Ab (o' := 17) rfl (A8 s41 (.here) rfl rfl fun H s43 => Ab (o' := 18) rfl (Aq (c := .sc (.bool (decide (0 < (bits .and .i64 (A7 B (yq6 + 1)) 64))))) s43 (.here) rfl (Dn (Aa ((decide (0 < (bits .and .i64 (A7 B (yq6 + 1)) 64)))) (fun h44 => ?_) (fun h44 => ?_))))))
 have dh44 := of_decide_eq_true h44
 refine Au h44 ?_
 obtain ⟨vq45, yq45, oq45, q45⟩ : ∃ w y o, Bl B yq40 = (w, y, o) := ⟨_, _, _, rfl⟩
 have bq45 := Fj q45
 refine Ek s43 rfl (.cons .ro (.cons .sc .nil)) (by have h := Ol (n + 3) (by omega) B yq40 (by omega) (by omega); rw [q45] at h; exact h) rfl (Jd (ty := 22) rfl (Df vq45) (Bk (Bk Eh))) ?_
 rintro _ _ H ⟨x46, _, _, lx46, rfl, rfl, ⟨_, rfl, ⟨_, rfl, ⟨rfl, rfl⟩⟩⟩⟩ s47
 simp only [zak, za0] at s47
 refine Bs (v := x46) rfl (Bs (v := si yq45) rfl (Bs (v := sb oq45) rfl (C5 (Aa (oq45) (fun h48 => ?_) (fun h48 => ?_)))))
 refine Ax (nF h48) (Ab (o' := 19) rfl (A8 s47 C6 lx46 rfl fun H s49 => Av s49 (.here) rfl (Cm (cs' := [si 1, bF, i0, bF, i0, sE, .nl, ss vq24, si (A7 B yq6), .sc (.bool (decide (0 < (bits .and .i64 (A7 B (yq6 + 1)) 2)))), si wq21, .sc (.bool (decide (0 < (bits .and .i64 (A7 B (yq6 + 1)) 4)))), ss vq30, x33, si (bits .and .i64 ((A7 B (yq6 + 1)) / 8) 3), .sc (.bool (decide (0 < (bits .and .i64 (A7 B (yq6 + 1)) 32)))), .sc (.bool (decide (0 < (bits .and .i64 (A7 B (yq6 + 1)) 128)))), ss vq40, .sc (.bool (decide (0 < (bits .and .i64 (A7 B (yq6 + 1)) 64)))), x46, i0, bF, .nl, .nl, .nl]) s49 Ls (Am (Ad rfl (Ad rfl (Ad rfl (Ad rfl (Ad rfl (Ad rfl (Ad rfl (Ad rfl (Ad rfl (Ad rfl (Ad rfl (Ad rfl (Ad rfl (Ad lx33 (Ad rfl (Ad rfl (Ad rfl (Ad rfl (Ad rfl (Ad lx46 rfl))))))))))))))))))))) rfl (Cr rfl) rfl fun H s50 => Av s50 (.here) rfl (Ah (Ch s50 ⟨_, rfl, rfl⟩ (Eb (.nl (Eb (.own Ls (G8 (.own Do (.sc (.sc (.nl (.nl (.nl .nil))))))))))) (Ec ⟨(An ⟨_, _, rfl, rfl⟩), (Ec ⟨(Cg (Df vq32) (by decide)), (Ha ⟨(Cg (Df vq45) (by decide)), (Fi ⟨(An ⟨_, _, rfl, rfl⟩), ⟨(An ⟨_, _, rfl, rfl⟩), ⟨(An ⟨_, _, rfl, rfl⟩), trivial⟩⟩⟩)⟩)⟩)⟩)) ?_))))
 have e : A1 B = (⟨1, false, 0, false, 0, ⟨#[]⟩, ⟨#[]⟩, vq24, (A7 B yq6), (decide (0 < (bits .and .i64 (A7 B (yq6 + 1)) 2))), wq21, (decide (0 < (bits .and .i64 (A7 B (yq6 + 1)) 4))), vq30, vq32, (bits .and .i64 ((A7 B (yq6 + 1)) / 8) 3), (decide (0 < (bits .and .i64 (A7 B (yq6 + 1)) 32))), (decide (0 < (bits .and .i64 (A7 B (yq6 + 1)) 128))), vq40, (decide (0 < (bits .and .i64 (A7 B (yq6 + 1)) 64))), vq45, 0, false, [], [], []⟩ : PacketV) := by
  unfold A1 Hj G7 G6 El G5 F5; simp only [h8, h9, h10, h27, h28, h29, h35, h36, h39, h42, h44, h48, q6, q21, q24, q30, q32, q40, q45, if_true, if_false, or_true, or_false, false_or, true_or, zaa, reduceIte, mqtt, Ay]; first | done | rfl | (simp [Bj, h8, h9, h10, h27, h28, h29, h35, h36, h39, h42, h44, h48]; done)
 ·rw [e]
  first | done | rfl
 refine Au (nT h48) (Bh (cs := Ez) rfl (Cm (cs' := Ez) s47 Ls (Am rfl) rfl (Cr rfl) rfl fun H s51 => Av s51 (.here) rfl (Ah (Ch s51 ⟨_, rfl, rfl⟩ (Eb (.nl (Eb (.nl (G8 (.nl (.sc (.sc (.nl (.nl (.nl .nil))))))))))) (Ec ⟨(An ⟨_, _, rfl, rfl⟩), (Ec ⟨(An ⟨_, _, rfl, rfl⟩), (Ha ⟨(An ⟨_, _, rfl, rfl⟩), (Fi ⟨(An ⟨_, _, rfl, rfl⟩), ⟨(An ⟨_, _, rfl, rfl⟩), ⟨(An ⟨_, _, rfl, rfl⟩), trivial⟩⟩⟩)⟩)⟩)⟩)) ?_)))
 have e : A1 B = (⟨0, false, 0, false, 0, ⟨#[]⟩, ⟨#[]⟩, ⟨#[]⟩, 0, false, 0, false, ⟨#[]⟩, ⟨#[]⟩, 0, false, false, ⟨#[]⟩, false, ⟨#[]⟩, 0, false, [], [], []⟩ : PacketV) := by
  unfold A1 Hj G7 G6 El G5 F5; simp only [h8, h9, h10, h27, h28, h29, h35, h36, h39, h42, h44, h48, q6, q21, q24, q30, q32, q40, q45, if_true, if_false, or_true, or_false, false_or, true_or, zaa, reduceIte, mqtt, Ay]; first | done | rfl | (simp [Bj, h8, h9, h10, h27, h28, h29, h35, h36, h39, h42, h44, h48]; done)
 ·rw [e]
  first | done | rfl
 have dh44 := of_decide_eq_false h44
 refine Ax h44 (Av s43 (.here) rfl (Cm (cs' := [si 1, bF, i0, bF, i0, sE, .nl, ss vq24, si (A7 B yq6), .sc (.bool (decide (0 < (bits .and .i64 (A7 B (yq6 + 1)) 2)))), si wq21, .sc (.bool (decide (0 < (bits .and .i64 (A7 B (yq6 + 1)) 4)))), ss vq30, x33, si (bits .and .i64 ((A7 B (yq6 + 1)) / 8) 3), .sc (.bool (decide (0 < (bits .and .i64 (A7 B (yq6 + 1)) 32)))), .sc (.bool (decide (0 < (bits .and .i64 (A7 B (yq6 + 1)) 128)))), ss vq40, .sc (.bool (decide (0 < (bits .and .i64 (A7 B (yq6 + 1)) 64)))), .nl, i0, bF, .nl, .nl, .nl]) s43 Do (Am (Ad rfl (Ad rfl (Ad rfl (Ad rfl (Ad rfl (Ad rfl (Ad rfl (Ad rfl (Ad rfl (Ad rfl (Ad rfl (Ad rfl (Ad rfl (Ad lx33 rfl))))))))))))))) rfl (Cr rfl) rfl fun H s52 => Av s52 (.here) rfl (Ah (Ch s52 ⟨_, rfl, rfl⟩ (Eb (.nl (Eb (.own Do (G8 (.nl (.sc (.sc (.nl (.nl (.nl .nil))))))))))) (Ec ⟨(An ⟨_, _, rfl, rfl⟩), (Ec ⟨(Cg (Df vq32) (by decide)), (Ha ⟨(An ⟨_, _, rfl, rfl⟩), (Fi ⟨(An ⟨_, _, rfl, rfl⟩), ⟨(An ⟨_, _, rfl, rfl⟩), ⟨(An ⟨_, _, rfl, rfl⟩), trivial⟩⟩⟩)⟩)⟩)⟩)) ?_)))
 have e : A1 B = (⟨1, false, 0, false, 0, ⟨#[]⟩, ⟨#[]⟩, vq24, (A7 B yq6), (decide (0 < (bits .and .i64 (A7 B (yq6 + 1)) 2))), wq21, (decide (0 < (bits .and .i64 (A7 B (yq6 + 1)) 4))), vq30, vq32, (bits .and .i64 ((A7 B (yq6 + 1)) / 8) 3), (decide (0 < (bits .and .i64 (A7 B (yq6 + 1)) 32))), (decide (0 < (bits .and .i64 (A7 B (yq6 + 1)) 128))), vq40, (decide (0 < (bits .and .i64 (A7 B (yq6 + 1)) 64))), ⟨#[]⟩, 0, false, [], [], []⟩ : PacketV) := by
  unfold A1 Hj G7 G6 El G5 F5; simp only [h8, h9, h10, h27, h28, h29, h35, h36, h39, h42, h44, q6, q21, q24, q30, q32, q40, if_true, if_false, or_true, or_false, false_or, true_or, zaa, reduceIte, mqtt, Ay]; first | done | rfl | (simp [Bj, h8, h9, h10, h27, h28, h29, h35, h36, h39, h42, h44]; done)
 ·rw [e]
  first | done | rfl
 refine Au (nT h42) (Bh (cs := Ez) rfl (Cm (cs' := Ez) s41 Do (Am rfl) rfl (Cr rfl) rfl fun H s53 => Av s53 (.here) rfl (Ah (Ch s53 ⟨_, rfl, rfl⟩ (Eb (.nl (Eb (.nl (G8 (.nl (.sc (.sc (.nl (.nl (.nl .nil))))))))))) (Ec ⟨(An ⟨_, _, rfl, rfl⟩), (Ec ⟨(An ⟨_, _, rfl, rfl⟩), (Ha ⟨(An ⟨_, _, rfl, rfl⟩), (Fi ⟨(An ⟨_, _, rfl, rfl⟩), ⟨(An ⟨_, _, rfl, rfl⟩), ⟨(An ⟨_, _, rfl, rfl⟩), trivial⟩⟩⟩)⟩)⟩)⟩)) ?_)))
 have e : A1 B = (⟨0, false, 0, false, 0, ⟨#[]⟩, ⟨#[]⟩, ⟨#[]⟩, 0, false, 0, false, ⟨#[]⟩, ⟨#[]⟩, 0, false, false, ⟨#[]⟩, false, ⟨#[]⟩, 0, false, [], [], []⟩ : PacketV) := by
  unfold A1 Hj G7 G6 El G5 F5; simp only [h8, h9, h10, h27, h28, h29, h35, h36, h39, h42, q6, q21, q24, q30, q32, q40, if_true, if_false, or_true, or_false, false_or, true_or, zaa, reduceIte, mqtt, Ay]; first | done | rfl | (simp [Bj, h8, h9, h10, h27, h28, h29, h35, h36, h39, h42]; done)
 ·rw [e]
  first | done | rfl
 have dh39 := of_decide_eq_false h39
 refine Ax h39 (Ab (o' := 18) rfl (Aq (c := .sc (.bool (decide (0 < (bits .and .i64 (A7 B (yq6 + 1)) 64))))) s38 (.here) rfl (Dn (Aa ((decide (0 < (bits .and .i64 (A7 B (yq6 + 1)) 64)))) (fun h54 => ?_) (fun h54 => ?_)))))
 have dh54 := of_decide_eq_true h54
 refine Au h54 ?_
 obtain ⟨vq55, yq55, oq55, q55⟩ : ∃ w y o, Bl B yq32 = (w, y, o) := ⟨_, _, _, rfl⟩
 have bq55 := Fj q55
 refine Ek s38 rfl (.cons .ro (.cons .sc .nil)) (by have h := Ol (n + 3) (by omega) B yq32 (by omega) (by omega); rw [q55] at h; exact h) rfl (Jd (ty := 22) rfl (Df vq55) (Bk (Bk Eh))) ?_
 rintro _ _ H ⟨x56, _, _, lx56, rfl, rfl, ⟨_, rfl, ⟨_, rfl, ⟨rfl, rfl⟩⟩⟩⟩ s57
 simp only [zak, za0] at s57
 refine Bs (v := x56) rfl (Bs (v := si yq55) rfl (Bs (v := sb oq55) rfl (C5 (Aa (oq55) (fun h58 => ?_) (fun h58 => ?_)))))
 refine Ax (nF h58) (Ab (o' := 19) rfl (A8 s57 C6 lx56 rfl fun H s59 => Av s59 (.here) rfl (Cm (cs' := [si 1, bF, i0, bF, i0, sE, .nl, ss vq24, si (A7 B yq6), .sc (.bool (decide (0 < (bits .and .i64 (A7 B (yq6 + 1)) 2)))), si wq21, .sc (.bool (decide (0 < (bits .and .i64 (A7 B (yq6 + 1)) 4)))), ss vq30, x33, si (bits .and .i64 ((A7 B (yq6 + 1)) / 8) 3), .sc (.bool (decide (0 < (bits .and .i64 (A7 B (yq6 + 1)) 32)))), .sc (.bool (decide (0 < (bits .and .i64 (A7 B (yq6 + 1)) 128)))), sE, .sc (.bool (decide (0 < (bits .and .i64 (A7 B (yq6 + 1)) 64)))), x56, i0, bF, .nl, .nl, .nl]) s59 Ls (Am (Ad rfl (Ad rfl (Ad rfl (Ad rfl (Ad rfl (Ad rfl (Ad rfl (Ad rfl (Ad rfl (Ad rfl (Ad rfl (Ad rfl (Ad rfl (Ad lx33 (Ad rfl (Ad rfl (Ad rfl (Ad rfl (Ad rfl (Ad lx56 rfl))))))))))))))))))))) rfl (Cr rfl) rfl fun H s60 => Av s60 (.here) rfl (Ah (Ch s60 ⟨_, rfl, rfl⟩ (Eb (.nl (Eb (.own Ls (G8 (.own Do (.sc (.sc (.nl (.nl (.nl .nil))))))))))) (Ec ⟨(An ⟨_, _, rfl, rfl⟩), (Ec ⟨(Cg (Df vq32) (by decide)), (Ha ⟨(Cg (Df vq55) (by decide)), (Fi ⟨(An ⟨_, _, rfl, rfl⟩), ⟨(An ⟨_, _, rfl, rfl⟩), ⟨(An ⟨_, _, rfl, rfl⟩), trivial⟩⟩⟩)⟩)⟩)⟩)) ?_))))
 have e : A1 B = (⟨1, false, 0, false, 0, ⟨#[]⟩, ⟨#[]⟩, vq24, (A7 B yq6), (decide (0 < (bits .and .i64 (A7 B (yq6 + 1)) 2))), wq21, (decide (0 < (bits .and .i64 (A7 B (yq6 + 1)) 4))), vq30, vq32, (bits .and .i64 ((A7 B (yq6 + 1)) / 8) 3), (decide (0 < (bits .and .i64 (A7 B (yq6 + 1)) 32))), (decide (0 < (bits .and .i64 (A7 B (yq6 + 1)) 128))), ⟨#[]⟩, (decide (0 < (bits .and .i64 (A7 B (yq6 + 1)) 64))), vq55, 0, false, [], [], []⟩ : PacketV) := by
  unfold A1 Hj G7 G6 El G5 F5; simp only [h8, h9, h10, h27, h28, h29, h35, h36, h39, h54, h58, q6, q21, q24, q30, q32, q55, if_true, if_false, or_true, or_false, false_or, true_or, zaa, reduceIte, mqtt, Ay]; first | done | rfl | (simp [Bj, h8, h9, h10, h27, h28, h29, h35, h36, h39, h54, h58]; done)
 ·rw [e]
  first | done | rfl
 refine Au (nT h58) (Bh (cs := Ez) rfl (Cm (cs' := Ez) s57 Ls (Am rfl) rfl (Cr rfl) rfl fun H s61 => Av s61 (.here) rfl (Ah (Ch s61 ⟨_, rfl, rfl⟩ (Eb (.nl (Eb (.nl (G8 (.nl (.sc (.sc (.nl (.nl (.nl .nil))))))))))) (Ec ⟨(An ⟨_, _, rfl, rfl⟩), (Ec ⟨(An ⟨_, _, rfl, rfl⟩), (Ha ⟨(An ⟨_, _, rfl, rfl⟩), (Fi ⟨(An ⟨_, _, rfl, rfl⟩), ⟨(An ⟨_, _, rfl, rfl⟩), ⟨(An ⟨_, _, rfl, rfl⟩), trivial⟩⟩⟩)⟩)⟩)⟩)) ?_)))
 have e : A1 B = (⟨0, false, 0, false, 0, ⟨#[]⟩, ⟨#[]⟩, ⟨#[]⟩, 0, false, 0, false, ⟨#[]⟩, ⟨#[]⟩, 0, false, false, ⟨#[]⟩, false, ⟨#[]⟩, 0, false, [], [], []⟩ : PacketV) := by
  unfold A1 Hj G7 G6 El G5 F5; simp only [h8, h9, h10, h27, h28, h29, h35, h36, h39, h54, h58, q6, q21, q24, q30, q32, q55, if_true, if_false, or_true, or_false, false_or, true_or, zaa, reduceIte, mqtt, Ay]; first | done | rfl | (simp [Bj, h8, h9, h10, h27, h28, h29, h35, h36, h39, h54, h58]; done)
 ·rw [e]
  first | done | rfl
 have dh54 := of_decide_eq_false h54
 refine Ax h54 (Av s38 (.here) rfl (Cm (cs' := [si 1, bF, i0, bF, i0, sE, .nl, ss vq24, si (A7 B yq6), .sc (.bool (decide (0 < (bits .and .i64 (A7 B (yq6 + 1)) 2)))), si wq21, .sc (.bool (decide (0 < (bits .and .i64 (A7 B (yq6 + 1)) 4)))), ss vq30, x33, si (bits .and .i64 ((A7 B (yq6 + 1)) / 8) 3), .sc (.bool (decide (0 < (bits .and .i64 (A7 B (yq6 + 1)) 32)))), .sc (.bool (decide (0 < (bits .and .i64 (A7 B (yq6 + 1)) 128)))), sE, .sc (.bool (decide (0 < (bits .and .i64 (A7 B (yq6 + 1)) 64)))), .nl, i0, bF, .nl, .nl, .nl]) s38 Do (Am (Ad rfl (Ad rfl (Ad rfl (Ad rfl (Ad rfl (Ad rfl (Ad rfl (Ad rfl (Ad rfl (Ad rfl (Ad rfl (Ad rfl (Ad rfl (Ad lx33 rfl))))))))))))))) rfl (Cr rfl) rfl fun H s62 => Av s62 (.here) rfl (Ah (Ch s62 ⟨_, rfl, rfl⟩ (Eb (.nl (Eb (.own Do (G8 (.nl (.sc (.sc (.nl (.nl (.nl .nil))))))))))) (Ec ⟨(An ⟨_, _, rfl, rfl⟩), (Ec ⟨(Cg (Df vq32) (by decide)), (Ha ⟨(An ⟨_, _, rfl, rfl⟩), (Fi ⟨(An ⟨_, _, rfl, rfl⟩), ⟨(An ⟨_, _, rfl, rfl⟩), ⟨(An ⟨_, _, rfl, rfl⟩), trivial⟩⟩⟩)⟩)⟩)⟩)) ?_)))
 have e : A1 B = (⟨1, false, 0, false, 0, ⟨#[]⟩, ⟨#[]⟩, vq24, (A7 B yq6), (decide (0 < (bits .and .i64 (A7 B (yq6 + 1)) 2))), wq21, (decide (0 < (bits .and .i64 (A7 B (yq6 + 1)) 4))), vq30, vq32, (bits .and .i64 ((A7 B (yq6 + 1)) / 8) 3), (decide (0 < (bits .and .i64 (A7 B (yq6 + 1)) 32))), (decide (0 < (bits .and .i64 (A7 B (yq6 + 1)) 128))), ⟨#[]⟩, (decide (0 < (bits .and .i64 (A7 B (yq6 + 1)) 64))), ⟨#[]⟩, 0, false, [], [], []⟩ : PacketV) := by
  unfold A1 Hj G7 G6 El G5 F5; simp only [h8, h9, h10, h27, h28, h29, h35, h36, h39, h54, q6, q21, q24, q30, q32, if_true, if_false, or_true, or_false, false_or, true_or, zaa, reduceIte, mqtt, Ay]; first | done | rfl | (simp [Bj, h8, h9, h10, h27, h28, h29, h35, h36, h39, h54]; done)
 ·rw [e]
  first | done | rfl
 refine Au (nT h36) (Bh (cs := Ez) rfl (Cm (cs' := Ez) s34 Do (Am rfl) rfl (Cr rfl) rfl fun H s63 => Av s63 (.here) rfl (Ah (Ch s63 ⟨_, rfl, rfl⟩ (Eb (.nl (Eb (.nl (G8 (.nl (.sc (.sc (.nl (.nl (.nl .nil))))))))))) (Ec ⟨(An ⟨_, _, rfl, rfl⟩), (Ec ⟨(An ⟨_, _, rfl, rfl⟩), (Ha ⟨(An ⟨_, _, rfl, rfl⟩), (Fi ⟨(An ⟨_, _, rfl, rfl⟩), ⟨(An ⟨_, _, rfl, rfl⟩), ⟨(An ⟨_, _, rfl, rfl⟩), trivial⟩⟩⟩)⟩)⟩)⟩)) ?_)))
 have e : A1 B = (⟨0, false, 0, false, 0, ⟨#[]⟩, ⟨#[]⟩, ⟨#[]⟩, 0, false, 0, false, ⟨#[]⟩, ⟨#[]⟩, 0, false, false, ⟨#[]⟩, false, ⟨#[]⟩, 0, false, [], [], []⟩ : PacketV) := by
  unfold A1 Hj G7 G6 El G5 F5; simp only [h8, h9, h10, h27, h28, h29, h35, h36, q6, q21, q24, q30, q32, if_true, if_false, or_true, or_false, false_or, true_or, zaa, reduceIte, mqtt, Ay]; first | done | rfl | (simp [Bj, h8, h9, h10, h27, h28, h29, h35, h36]; done)
 ·rw [e]
  first | done | rfl
 refine Ac (nT h35) (Ac (nT h35) (B4 (nT h35) (Au rfl (Bh (cs := Ez) rfl (Cm (cs' := Ez) s34 Do (Am rfl) rfl (Cr rfl) rfl fun H s64 => Av s64 (.here) rfl (Ah (Ch s64 ⟨_, rfl, rfl⟩ (Eb (.nl (Eb (.nl (G8 (.nl (.sc (.sc (.nl (.nl (.nl .nil))))))))))) (Ec ⟨(An ⟨_, _, rfl, rfl⟩), (Ec ⟨(An ⟨_, _, rfl, rfl⟩), (Ha ⟨(An ⟨_, _, rfl, rfl⟩), (Fi ⟨(An ⟨_, _, rfl, rfl⟩), ⟨(An ⟨_, _, rfl, rfl⟩), ⟨(An ⟨_, _, rfl, rfl⟩), trivial⟩⟩⟩)⟩)⟩)⟩)) ?_))))))
 have e : A1 B = (⟨0, false, 0, false, 0, ⟨#[]⟩, ⟨#[]⟩, ⟨#[]⟩, 0, false, 0, false, ⟨#[]⟩, ⟨#[]⟩, 0, false, false, ⟨#[]⟩, false, ⟨#[]⟩, 0, false, [], [], []⟩ : PacketV) := by
  unfold A1 Hj G7 G6 El G5 F5; simp only [h8, h9, h10, h27, h28, h29, h35, q6, q21, q24, q30, q32, if_true, if_false, or_true, or_false, false_or, true_or, zaa, reduceIte, mqtt, Ay]; first | done | rfl | (simp [Bj, h8, h9, h10, h27, h28, h29, h35]; done)
 ·rw [e]
  first | done | rfl
 have dh29 := of_decide_eq_false h29
 refine Ax h29 (Ab (o' := 16) rfl (Aq (c := .sc (.bool (decide (0 < (bits .and .i64 (A7 B (yq6 + 1)) 128))))) s26 (.here) rfl (Dn (Aa ((decide (0 < (bits .and .i64 (A7 B (yq6 + 1)) 128)))) (fun h65 => ?_) (fun h65 => ?_)))))
 have dh65 := of_decide_eq_true h65
 refine Au h65 ?_
 obtain ⟨vq66, yq66, oq66, q66⟩ : ∃ w y o, Ce B yq24 = (w, y, o) := ⟨_, _, _, rfl⟩
 have bq66 := Gp q66
 refine Ek s26 rfl (.cons .ro (.cons .sc .nil)) (by have h := Kg n (by omega) B yq24 (by omega) (by omega); rw [q66] at h; exact h) rfl (Bk (Bk (Bk Eh))) ?_
 rintro _ _ H ⟨_, rfl, ⟨_, rfl, ⟨_, rfl, ⟨rfl, rfl⟩⟩⟩⟩ s67
 simp only [zak] at s67
 refine Bs (v := ss vq66) rfl (Bs (v := si yq66) rfl (Bs (v := sb oq66) rfl (C5 (Aa (oq66) (fun h68 => ?_) (fun h68 => ?_)))))
 refine Ax (nF h68) (Ab (o' := 17) rfl (A8 s67 (.here) rfl rfl fun H s69 => Ab (o' := 18) rfl (Aq (c := .sc (.bool (decide (0 < (bits .and .i64 (A7 B (yq6 + 1)) 64))))) s69 (.here) rfl (Dn (Aa ((decide (0 < (bits .and .i64 (A7 B (yq6 + 1)) 64)))) (fun h70 => ?_) (fun h70 => ?_))))))
 have dh70 := of_decide_eq_true h70
 refine Au h70 ?_
 obtain ⟨vq71, yq71, oq71, q71⟩ : ∃ w y o, Bl B yq66 = (w, y, o) := ⟨_, _, _, rfl⟩
 have bq71 := Fj q71
 refine Ek s69 rfl (.cons .ro (.cons .sc .nil)) (by have h := Ol (n + 3) (by omega) B yq66 (by omega) (by omega); rw [q71] at h; exact h) rfl (Jd (ty := 22) rfl (Df vq71) (Bk (Bk Eh))) ?_
 rintro _ _ H ⟨x72, _, _, lx72, rfl, rfl, ⟨_, rfl, ⟨_, rfl, ⟨rfl, rfl⟩⟩⟩⟩ s73
 simp only [zak, za0] at s73
 refine Bs (v := x72) rfl (Bs (v := si yq71) rfl (Bs (v := sb oq71) rfl (C5 (Aa (oq71) (fun h74 => ?_) (fun h74 => ?_)))))
 refine Ax (nF h74) (Ab (o' := 19) rfl (A8 s73 C6 lx72 rfl fun H s75 => Av s75 (.here) rfl (Cm (cs' := [si 1, bF, i0, bF, i0, sE, .nl, ss vq24, si (A7 B yq6), .sc (.bool (decide (0 < (bits .and .i64 (A7 B (yq6 + 1)) 2)))), si wq21, .sc (.bool (decide (0 < (bits .and .i64 (A7 B (yq6 + 1)) 4)))), sE, .nl, si (bits .and .i64 ((A7 B (yq6 + 1)) / 8) 3), .sc (.bool (decide (0 < (bits .and .i64 (A7 B (yq6 + 1)) 32)))), .sc (.bool (decide (0 < (bits .and .i64 (A7 B (yq6 + 1)) 128)))), ss vq66, .sc (.bool (decide (0 < (bits .and .i64 (A7 B (yq6 + 1)) 64)))), x72, i0, bF, .nl, .nl, .nl]) s75 Do (Am (Ad rfl (Ad rfl (Ad rfl (Ad rfl (Ad rfl (Ad rfl (Ad rfl (Ad rfl (Ad rfl (Ad rfl (Ad rfl (Ad rfl (Ad rfl (Ad rfl (Ad rfl (Ad rfl (Ad rfl (Ad rfl (Ad rfl (Ad lx72 rfl))))))))))))))))))))) rfl (Cr rfl) rfl fun H s76 => Av s76 (.here) rfl (Ah (Ch s76 ⟨_, rfl, rfl⟩ (Eb (.nl (Eb (.nl (G8 (.own Do (.sc (.sc (.nl (.nl (.nl .nil))))))))))) (Ec ⟨(An ⟨_, _, rfl, rfl⟩), (Ec ⟨(An ⟨_, _, rfl, rfl⟩), (Ha ⟨(Cg (Df vq71) (by decide)), (Fi ⟨(An ⟨_, _, rfl, rfl⟩), ⟨(An ⟨_, _, rfl, rfl⟩), ⟨(An ⟨_, _, rfl, rfl⟩), trivial⟩⟩⟩)⟩)⟩)⟩)) ?_))))
 have e : A1 B = (⟨1, false, 0, false, 0, ⟨#[]⟩, ⟨#[]⟩, vq24, (A7 B yq6), (decide (0 < (bits .and .i64 (A7 B (yq6 + 1)) 2))), wq21, (decide (0 < (bits .and .i64 (A7 B (yq6 + 1)) 4))), ⟨#[]⟩, ⟨#[]⟩, (bits .and .i64 ((A7 B (yq6 + 1)) / 8) 3), (decide (0 < (bits .and .i64 (A7 B (yq6 + 1)) 32))), (decide (0 < (bits .and .i64 (A7 B (yq6 + 1)) 128))), vq66, (decide (0 < (bits .and .i64 (A7 B (yq6 + 1)) 64))), vq71, 0, false, [], [], []⟩ : PacketV) := by
  unfold A1 Hj G7 G6 El G5 F5; simp only [h8, h9, h10, h27, h28, h29, h65, h68, h70, h74, q6, q21, q24, q66, q71, if_true, if_false, or_true, or_false, false_or, true_or, zaa, reduceIte, mqtt, Ay]; first | done | rfl | (simp [Bj, h8, h9, h10, h27, h28, h29, h65, h68, h70, h74]; done)
 ·rw [e]
  first | done | rfl
 refine Au (nT h74) (Bh (cs := Ez) rfl (Cm (cs' := Ez) s73 Do (Am rfl) rfl (Cr rfl) rfl fun H s77 => Av s77 (.here) rfl (Ah (Ch s77 ⟨_, rfl, rfl⟩ (Eb (.nl (Eb (.nl (G8 (.nl (.sc (.sc (.nl (.nl (.nl .nil))))))))))) (Ec ⟨(An ⟨_, _, rfl, rfl⟩), (Ec ⟨(An ⟨_, _, rfl, rfl⟩), (Ha ⟨(An ⟨_, _, rfl, rfl⟩), (Fi ⟨(An ⟨_, _, rfl, rfl⟩), ⟨(An ⟨_, _, rfl, rfl⟩), ⟨(An ⟨_, _, rfl, rfl⟩), trivial⟩⟩⟩)⟩)⟩)⟩)) ?_)))
 have e : A1 B = (⟨0, false, 0, false, 0, ⟨#[]⟩, ⟨#[]⟩, ⟨#[]⟩, 0, false, 0, false, ⟨#[]⟩, ⟨#[]⟩, 0, false, false, ⟨#[]⟩, false, ⟨#[]⟩, 0, false, [], [], []⟩ : PacketV) := by
  unfold A1 Hj G7 G6 El G5 F5; simp only [h8, h9, h10, h27, h28, h29, h65, h68, h70, h74, q6, q21, q24, q66, q71, if_true, if_false, or_true, or_false, false_or, true_or, zaa, reduceIte, mqtt, Ay]; first | done | rfl | (simp [Bj, h8, h9, h10, h27, h28, h29, h65, h68, h70, h74]; done)
 ·rw [e]
  first | done | rfl
 have dh70 := of_decide_eq_false h70
 refine Ax h70 (Av s69 (.here) rfl (Cm (cs' := [si 1, bF, i0, bF, i0, sE, .nl, ss vq24, si (A7 B yq6), .sc (.bool (decide (0 < (bits .and .i64 (A7 B (yq6 + 1)) 2)))), si wq21, .sc (.bool (decide (0 < (bits .and .i64 (A7 B (yq6 + 1)) 4)))), sE, .nl, si (bits .and .i64 ((A7 B (yq6 + 1)) / 8) 3), .sc (.bool (decide (0 < (bits .and .i64 (A7 B (yq6 + 1)) 32)))), .sc (.bool (decide (0 < (bits .and .i64 (A7 B (yq6 + 1)) 128)))), ss vq66, .sc (.bool (decide (0 < (bits .and .i64 (A7 B (yq6 + 1)) 64)))), .nl, i0, bF, .nl, .nl, .nl]) s69 C6 (Am rfl) rfl (Cr rfl) rfl fun H s78 => Av s78 (.here) rfl (Ah (Ch s78 ⟨_, rfl, rfl⟩ (Eb (.nl (Eb (.nl (G8 (.nl (.sc (.sc (.nl (.nl (.nl .nil))))))))))) (Ec ⟨(An ⟨_, _, rfl, rfl⟩), (Ec ⟨(An ⟨_, _, rfl, rfl⟩), (Ha ⟨(An ⟨_, _, rfl, rfl⟩), (Fi ⟨(An ⟨_, _, rfl, rfl⟩), ⟨(An ⟨_, _, rfl, rfl⟩), ⟨(An ⟨_, _, rfl, rfl⟩), trivial⟩⟩⟩)⟩)⟩)⟩)) ?_)))
 have e : A1 B = (⟨1, false, 0, false, 0, ⟨#[]⟩, ⟨#[]⟩, vq24, (A7 B yq6), (decide (0 < (bits .and .i64 (A7 B (yq6 + 1)) 2))), wq21, (decide (0 < (bits .and .i64 (A7 B (yq6 + 1)) 4))), ⟨#[]⟩, ⟨#[]⟩, (bits .and .i64 ((A7 B (yq6 + 1)) / 8) 3), (decide (0 < (bits .and .i64 (A7 B (yq6 + 1)) 32))), (decide (0 < (bits .and .i64 (A7 B (yq6 + 1)) 128))), vq66, (decide (0 < (bits .and .i64 (A7 B (yq6 + 1)) 64))), ⟨#[]⟩, 0, false, [], [], []⟩ : PacketV) := by
  unfold A1 Hj G7 G6 El G5 F5; simp only [h8, h9, h10, h27, h28, h29, h65, h68, h70, q6, q21, q24, q66, if_true, if_false, or_true, or_false, false_or, true_or, zaa, reduceIte, mqtt, Ay]; first | done | rfl | (simp [Bj, h8, h9, h10, h27, h28, h29, h65, h68, h70]; done)
 ·rw [e]
  first | done | rfl
 refine Au (nT h68) (Bh (cs := Ez) rfl (Cm (cs' := Ez) s67 C6 (Am rfl) rfl (Cr rfl) rfl fun H s79 => Av s79 (.here) rfl (Ah (Ch s79 ⟨_, rfl, rfl⟩ (Eb (.nl (Eb (.nl (G8 (.nl (.sc (.sc (.nl (.nl (.nl .nil))))))))))) (Ec ⟨(An ⟨_, _, rfl, rfl⟩), (Ec ⟨(An ⟨_, _, rfl, rfl⟩), (Ha ⟨(An ⟨_, _, rfl, rfl⟩), (Fi ⟨(An ⟨_, _, rfl, rfl⟩), ⟨(An ⟨_, _, rfl, rfl⟩), ⟨(An ⟨_, _, rfl, rfl⟩), trivial⟩⟩⟩)⟩)⟩)⟩)) ?_)))
 have e : A1 B = (⟨0, false, 0, false, 0, ⟨#[]⟩, ⟨#[]⟩, ⟨#[]⟩, 0, false, 0, false, ⟨#[]⟩, ⟨#[]⟩, 0, false, false, ⟨#[]⟩, false, ⟨#[]⟩, 0, false, [], [], []⟩ : PacketV) := by
  unfold A1 Hj G7 G6 El G5 F5; simp only [h8, h9, h10, h27, h28, h29, h65, h68, q6, q21, q24, q66, if_true, if_false, or_true, or_false, false_or, true_or, zaa, reduceIte, mqtt, Ay]; first | done | rfl | (simp [Bj, h8, h9, h10, h27, h28, h29, h65, h68]; done)
 ·rw [e]
  first | done | rfl
 have dh65 := of_decide_eq_false h65
 refine Ax h65 (Ab (o' := 18) rfl (Aq (c := .sc (.bool (decide (0 < (bits .and .i64 (A7 B (yq6 + 1)) 64))))) s26 (.here) rfl (Dn (Aa ((decide (0 < (bits .and .i64 (A7 B (yq6 + 1)) 64)))) (fun h80 => ?_) (fun h80 => ?_)))))
 have dh80 := of_decide_eq_true h80
 refine Au h80 ?_
 obtain ⟨vq81, yq81, oq81, q81⟩ : ∃ w y o, Bl B yq24 = (w, y, o) := ⟨_, _, _, rfl⟩
 have bq81 := Fj q81
 refine Ek s26 rfl (.cons .ro (.cons .sc .nil)) (by have h := Ol (n + 3) (by omega) B yq24 (by omega) (by omega); rw [q81] at h; exact h) rfl (Jd (ty := 22) rfl (Df vq81) (Bk (Bk Eh))) ?_
 rintro _ _ H ⟨x82, _, _, lx82, rfl, rfl, ⟨_, rfl, ⟨_, rfl, ⟨rfl, rfl⟩⟩⟩⟩ s83
 simp only [zak, za0] at s83
 refine Bs (v := x82) rfl (Bs (v := si yq81) rfl (Bs (v := sb oq81) rfl (C5 (Aa (oq81) (fun h84 => ?_) (fun h84 => ?_)))))
 refine Ax (nF h84) (Ab (o' := 19) rfl (A8 s83 C6 lx82 rfl fun H s85 => Av s85 (.here) rfl (Cm (cs' := [si 1, bF, i0, bF, i0, sE, .nl, ss vq24, si (A7 B yq6), .sc (.bool (decide (0 < (bits .and .i64 (A7 B (yq6 + 1)) 2)))), si wq21, .sc (.bool (decide (0 < (bits .and .i64 (A7 B (yq6 + 1)) 4)))), sE, .nl, si (bits .and .i64 ((A7 B (yq6 + 1)) / 8) 3), .sc (.bool (decide (0 < (bits .and .i64 (A7 B (yq6 + 1)) 32)))), .sc (.bool (decide (0 < (bits .and .i64 (A7 B (yq6 + 1)) 128)))), sE, .sc (.bool (decide (0 < (bits .and .i64 (A7 B (yq6 + 1)) 64)))), x82, i0, bF, .nl, .nl, .nl]) s85 Do (Am (Ad rfl (Ad rfl (Ad rfl (Ad rfl (Ad rfl (Ad rfl (Ad rfl (Ad rfl (Ad rfl (Ad rfl (Ad rfl (Ad rfl (Ad rfl (Ad rfl (Ad rfl (Ad rfl (Ad rfl (Ad rfl (Ad rfl (Ad lx82 rfl))))))))))))))))))))) rfl (Cr rfl) rfl fun H s86 => Av s86 (.here) rfl (Ah (Ch s86 ⟨_, rfl, rfl⟩ (Eb (.nl (Eb (.nl (G8 (.own Do (.sc (.sc (.nl (.nl (.nl .nil))))))))))) (Ec ⟨(An ⟨_, _, rfl, rfl⟩), (Ec ⟨(An ⟨_, _, rfl, rfl⟩), (Ha ⟨(Cg (Df vq81) (by decide)), (Fi ⟨(An ⟨_, _, rfl, rfl⟩), ⟨(An ⟨_, _, rfl, rfl⟩), ⟨(An ⟨_, _, rfl, rfl⟩), trivial⟩⟩⟩)⟩)⟩)⟩)) ?_))))
 have e : A1 B = (⟨1, false, 0, false, 0, ⟨#[]⟩, ⟨#[]⟩, vq24, (A7 B yq6), (decide (0 < (bits .and .i64 (A7 B (yq6 + 1)) 2))), wq21, (decide (0 < (bits .and .i64 (A7 B (yq6 + 1)) 4))), ⟨#[]⟩, ⟨#[]⟩, (bits .and .i64 ((A7 B (yq6 + 1)) / 8) 3), (decide (0 < (bits .and .i64 (A7 B (yq6 + 1)) 32))), (decide (0 < (bits .and .i64 (A7 B (yq6 + 1)) 128))), ⟨#[]⟩, (decide (0 < (bits .and .i64 (A7 B (yq6 + 1)) 64))), vq81, 0, false, [], [], []⟩ : PacketV) := by
  unfold A1 Hj G7 G6 El G5 F5; simp only [h8, h9, h10, h27, h28, h29, h65, h80, h84, q6, q21, q24, q81, if_true, if_false, or_true, or_false, false_or, true_or, zaa, reduceIte, mqtt, Ay]; first | done | rfl | (simp [Bj, h8, h9, h10, h27, h28, h29, h65, h80, h84]; done)
 ·rw [e]
  first | done | rfl
 refine Au (nT h84) (Bh (cs := Ez) rfl (Cm (cs' := Ez) s83 Do (Am rfl) rfl (Cr rfl) rfl fun H s87 => Av s87 (.here) rfl (Ah (Ch s87 ⟨_, rfl, rfl⟩ (Eb (.nl (Eb (.nl (G8 (.nl (.sc (.sc (.nl (.nl (.nl .nil))))))))))) (Ec ⟨(An ⟨_, _, rfl, rfl⟩), (Ec ⟨(An ⟨_, _, rfl, rfl⟩), (Ha ⟨(An ⟨_, _, rfl, rfl⟩), (Fi ⟨(An ⟨_, _, rfl, rfl⟩), ⟨(An ⟨_, _, rfl, rfl⟩), ⟨(An ⟨_, _, rfl, rfl⟩), trivial⟩⟩⟩)⟩)⟩)⟩)) ?_)))
 have e : A1 B = (⟨0, false, 0, false, 0, ⟨#[]⟩, ⟨#[]⟩, ⟨#[]⟩, 0, false, 0, false, ⟨#[]⟩, ⟨#[]⟩, 0, false, false, ⟨#[]⟩, false, ⟨#[]⟩, 0, false, [], [], []⟩ : PacketV) := by
  unfold A1 Hj G7 G6 El G5 F5; simp only [h8, h9, h10, h27, h28, h29, h65, h80, h84, q6, q21, q24, q81, if_true, if_false, or_true, or_false, false_or, true_or, zaa, reduceIte, mqtt, Ay]; first | done | rfl | (simp [Bj, h8, h9, h10, h27, h28, h29, h65, h80, h84]; done)
 ·rw [e]
  first | done | rfl
 have dh80 := of_decide_eq_false h80
 refine Ax h80 (Av s26 (.here) rfl (Cm (cs' := [si 1, bF, i0, bF, i0, sE, .nl, ss vq24, si (A7 B yq6), .sc (.bool (decide (0 < (bits .and .i64 (A7 B (yq6 + 1)) 2)))), si wq21, .sc (.bool (decide (0 < (bits .and .i64 (A7 B (yq6 + 1)) 4)))), sE, .nl, si (bits .and .i64 ((A7 B (yq6 + 1)) / 8) 3), .sc (.bool (decide (0 < (bits .and .i64 (A7 B (yq6 + 1)) 32)))), .sc (.bool (decide (0 < (bits .and .i64 (A7 B (yq6 + 1)) 128)))), sE, .sc (.bool (decide (0 < (bits .and .i64 (A7 B (yq6 + 1)) 64)))), .nl, i0, bF, .nl, .nl, .nl]) s26 C6 (Am rfl) rfl (Cr rfl) rfl fun H s88 => Av s88 (.here) rfl (Ah (Ch s88 ⟨_, rfl, rfl⟩ (Eb (.nl (Eb (.nl (G8 (.nl (.sc (.sc (.nl (.nl (.nl .nil))))))))))) (Ec ⟨(An ⟨_, _, rfl, rfl⟩), (Ec ⟨(An ⟨_, _, rfl, rfl⟩), (Ha ⟨(An ⟨_, _, rfl, rfl⟩), (Fi ⟨(An ⟨_, _, rfl, rfl⟩), ⟨(An ⟨_, _, rfl, rfl⟩), ⟨(An ⟨_, _, rfl, rfl⟩), trivial⟩⟩⟩)⟩)⟩)⟩)) ?_)))
 have e : A1 B = (⟨1, false, 0, false, 0, ⟨#[]⟩, ⟨#[]⟩, vq24, (A7 B yq6), (decide (0 < (bits .and .i64 (A7 B (yq6 + 1)) 2))), wq21, (decide (0 < (bits .and .i64 (A7 B (yq6 + 1)) 4))), ⟨#[]⟩, ⟨#[]⟩, (bits .and .i64 ((A7 B (yq6 + 1)) / 8) 3), (decide (0 < (bits .and .i64 (A7 B (yq6 + 1)) 32))), (decide (0 < (bits .and .i64 (A7 B (yq6 + 1)) 128))), ⟨#[]⟩, (decide (0 < (bits .and .i64 (A7 B (yq6 + 1)) 64))), ⟨#[]⟩, 0, false, [], [], []⟩ : PacketV) := by
  unfold A1 Hj G7 G6 El G5 F5; simp only [h8, h9, h10, h27, h28, h29, h65, h80, q6, q21, q24, if_true, if_false, or_true, or_false, false_or, true_or, zaa, reduceIte, mqtt, Ay]; first | done | rfl | (simp [Bj, h8, h9, h10, h27, h28, h29, h65, h80]; done)
 ·rw [e]
  first | done | rfl
 refine Au (nT h28) (Bh (cs := Ez) rfl (Cm (cs' := Ez) s26 C6 (Am rfl) rfl (Cr rfl) rfl fun H s89 => Av s89 (.here) rfl (Ah (Ch s89 ⟨_, rfl, rfl⟩ (Eb (.nl (Eb (.nl (G8 (.nl (.sc (.sc (.nl (.nl (.nl .nil))))))))))) (Ec ⟨(An ⟨_, _, rfl, rfl⟩), (Ec ⟨(An ⟨_, _, rfl, rfl⟩), (Ha ⟨(An ⟨_, _, rfl, rfl⟩), (Fi ⟨(An ⟨_, _, rfl, rfl⟩), ⟨(An ⟨_, _, rfl, rfl⟩), ⟨(An ⟨_, _, rfl, rfl⟩), trivial⟩⟩⟩)⟩)⟩)⟩)) ?_)))
 have e : A1 B = (⟨0, false, 0, false, 0, ⟨#[]⟩, ⟨#[]⟩, ⟨#[]⟩, 0, false, 0, false, ⟨#[]⟩, ⟨#[]⟩, 0, false, false, ⟨#[]⟩, false, ⟨#[]⟩, 0, false, [], [], []⟩ : PacketV) := by
  unfold A1 Hj G7 G6 El G5 F5; simp only [h8, h9, h10, h27, h28, q6, q21, q24, if_true, if_false, or_true, or_false, false_or, true_or, zaa, reduceIte, mqtt, Ay]; first | done | rfl | (simp [Bj, h8, h9, h10, h27, h28]; done)
 ·rw [e]
  first | done | rfl
 refine Ac (nT h27) (Ac (nT h27) (B4 (nT h27) (Au rfl (Bh (cs := Ez) rfl (Cm (cs' := Ez) s26 C6 (Am rfl) rfl (Cr rfl) rfl fun H s90 => Av s90 (.here) rfl (Ah (Ch s90 ⟨_, rfl, rfl⟩ (Eb (.nl (Eb (.nl (G8 (.nl (.sc (.sc (.nl (.nl (.nl .nil))))))))))) (Ec ⟨(An ⟨_, _, rfl, rfl⟩), (Ec ⟨(An ⟨_, _, rfl, rfl⟩), (Ha ⟨(An ⟨_, _, rfl, rfl⟩), (Fi ⟨(An ⟨_, _, rfl, rfl⟩), ⟨(An ⟨_, _, rfl, rfl⟩), ⟨(An ⟨_, _, rfl, rfl⟩), trivial⟩⟩⟩)⟩)⟩)⟩)) ?_))))))
 have e : A1 B = (⟨0, false, 0, false, 0, ⟨#[]⟩, ⟨#[]⟩, ⟨#[]⟩, 0, false, 0, false, ⟨#[]⟩, ⟨#[]⟩, 0, false, false, ⟨#[]⟩, false, ⟨#[]⟩, 0, false, [], [], []⟩ : PacketV) := by
  unfold A1 Hj G7 G6 El G5 F5; simp only [h8, h9, h10, h27, q6, q21, q24, if_true, if_false, or_true, or_false, false_or, true_or, zaa, reduceIte, mqtt, Ay]; first | done | rfl | (simp [Bj, h8, h9, h10, h27]; done)
 ·rw [e]
  first | done | rfl
 refine Ac (nT h9) (Ac (nT h9) (Ac (nT h9) (Ac (nT h9) (Ac (nT h9) (B4 (nT h9) (Au rfl (Bh (cs := Ez) rfl (Cm (cs' := Ez) s7 C6 (Am rfl) rfl (Cr rfl) rfl fun H s91 => Av s91 (.here) rfl (Ah (Ch s91 ⟨_, rfl, rfl⟩ (Eb (.nl (Eb (.nl (G8 (.nl (.sc (.sc (.nl (.nl (.nl .nil))))))))))) (Ec ⟨(An ⟨_, _, rfl, rfl⟩), (Ec ⟨(An ⟨_, _, rfl, rfl⟩), (Ha ⟨(An ⟨_, _, rfl, rfl⟩), (Fi ⟨(An ⟨_, _, rfl, rfl⟩), ⟨(An ⟨_, _, rfl, rfl⟩), ⟨(An ⟨_, _, rfl, rfl⟩), trivial⟩⟩⟩)⟩)⟩)⟩)) ?_)))))))))
 have e : A1 B = (⟨0, false, 0, false, 0, ⟨#[]⟩, ⟨#[]⟩, ⟨#[]⟩, 0, false, 0, false, ⟨#[]⟩, ⟨#[]⟩, 0, false, false, ⟨#[]⟩, false, ⟨#[]⟩, 0, false, [], [], []⟩ : PacketV) := by
  unfold A1 Hj G7 G6 El G5 F5; simp only [h8, h9, q6, if_true, if_false, or_true, or_false, false_or, true_or, zaa, reduceIte, mqtt, Ay]; first | done | rfl | (simp [Bj, h8, h9]; done)
 ·rw [e]
  first | done | rfl
 refine Ac (nT h8) (Ac (nT h8) (B4 (nT h8) (Ac rfl (Ac rfl (Ac rfl (Ac rfl (Ac rfl (B4 rfl (Au rfl (Bh (cs := Ez) rfl (Cm (cs' := Ez) s7 C6 (Am rfl) rfl (Cr rfl) rfl fun H s92 => Av s92 (.here) rfl (Ah (Ch s92 ⟨_, rfl, rfl⟩ (Eb (.nl (Eb (.nl (G8 (.nl (.sc (.sc (.nl (.nl (.nl .nil))))))))))) (Ec ⟨(An ⟨_, _, rfl, rfl⟩), (Ec ⟨(An ⟨_, _, rfl, rfl⟩), (Ha ⟨(An ⟨_, _, rfl, rfl⟩), (Fi ⟨(An ⟨_, _, rfl, rfl⟩), ⟨(An ⟨_, _, rfl, rfl⟩), ⟨(An ⟨_, _, rfl, rfl⟩), trivial⟩⟩⟩)⟩)⟩)⟩)) ?_))))))))))))
 have e : A1 B = (⟨0, false, 0, false, 0, ⟨#[]⟩, ⟨#[]⟩, ⟨#[]⟩, 0, false, 0, false, ⟨#[]⟩, ⟨#[]⟩, 0, false, false, ⟨#[]⟩, false, ⟨#[]⟩, 0, false, [], [], []⟩ : PacketV) := by
  unfold A1 Hj G7 G6 El G5 F5; simp only [h8, q6, if_true, if_false, or_true, or_false, false_or, true_or, zaa, reduceIte, mqtt, Ay]; first | done | rfl | (simp [Bj, h8]; done)
 ·rw [e]
  first | done | rfl
theorem Nj (n : Nat) (hn : 1048576 < n) (t id : Int) (B : ByteArray) (d4 d5 : Nat) (hB : B.size ≤ 1048576) (cs : List Int) : ∀ (f m : Nat) (a : Int) (ws : List WantV) (ns : List ByteArray) (xw xc xn : AV) (H : Ae), f ≤ m → ((B.size : Nat) : Int) - a < f → 0 ≤ a → ((ws.length + ns.length : Nat) : Int) ≤ a ∧ a ≤ ((B.size : Nat) : Int) → Bn xw = true → Bn xc = true → Bn xn = true → Sep H [.own xw 55 (Dk Cj ws), .own xc 57 (E1 cs), .own xn 56 (E3 ns), .blk d4 [.sc (.int .i64 0), .sc (.bool false), .sc (.int .i64 0), .sc (.bool false), .sc (.int .i64 0), .sc (.string (⟨#[]⟩)), .nl, .sc (.string (⟨#[]⟩)), .sc (.int .i64 0), .sc (.bool false), .sc (.int .i64 0), .sc (.bool false), .sc (.string (⟨#[]⟩)), .nl, .sc (.int .i64 0), .sc (.bool false), .sc (.bool false), .sc (.string (⟨#[]⟩)), .sc (.bool false), .nl, .sc (.int .i64 0), .sc (.bool false), .nl, .nl, .nl] true, .blk d5 [.sc (.int .i64 t), .sc (.bool false), .sc (.int .i64 0), .sc (.bool false), .sc (.int .i64 id), .sc (.string (⟨#[]⟩)), .nl, .sc (.string (⟨#[]⟩)), .sc (.int .i64 0), .sc (.bool false), .sc (.int .i64 0), .sc (.bool false), .sc (.string (⟨#[]⟩)), .nl, .sc (.int .i64 0), .sc (.bool false), .sc (.bool false), .sc (.string (⟨#[]⟩)), .sc (.bool false), .nl, .sc (.int .i64 0), .sc (.bool false), xw, xn, xc] true] → Gd (· = some (.agg (A0 (K4 t id cs (Db t B f a ws ns))))) (Nm (PR (n + 6) AV) (n + 6) (fun x H => Bm A4 E0.tp 59 H x) m (Ai B) (.ptr d4 0) (.ptr d5 0) (.sc (.int .i64 a)) H)
 | 0, m, a, ws, ns, xw, xc, xn, H, hm, hM, h0, h1, lxw, lxc, lxn, s0 => by
  exfalso
  omega
 | f + 1, m + 1, a, ws, ns, xw, xc, xn, H, hm, hM, h0, h1, lxw, lxc, lxn, s0 => by
  rw [Nm]
  try simp only [Cz, Bx, A9, Dz, A5, D8, Aw, Bg, Pr.gT, Pr.gF, Pr.hT, Pr.hF, Pr.kT, Pr.kF, Bv, B3, Bw, C2, D3, Dm, Hr]
  refine C4 (D4 (Aa ((decide (a < ((B.size : Nat) : Int)))) (fun h1 => ?_) (fun h1 => ?_)))
  have dh1 := of_decide_eq_true h1
  refine Af h1 (Ab (o' := 0) rfl (Af h1 (Aq (c := si t) s0 Lt rfl (Af h1 (Bd (Af h1 (Aa ((decide (t = 8))) (fun h2 => ?_) (fun h2 => ?_))))))))
  have dh2 := of_decide_eq_true h2
  refine Ac h2 (Ac h2 (Ac h2 (Af h1 (B4 h2 (B4 h1 (Au rfl ?_))))))
  obtain ⟨vq3, yq3, oq3, q3⟩ : ∃ w y o, Ce B a = (w, y, o) := ⟨_, _, _, rfl⟩
  have bq3 := Gp q3
  refine Ek s0 rfl (.cons .ro (.cons .sc .nil)) (by have h := Kg (n + 1) (by omega) B a (by omega) (by omega); rw [q3] at h; exact h) rfl (Bk (Bk (Bk Eh))) ?_
  rintro _ _ H ⟨_, rfl, ⟨_, rfl, ⟨_, rfl, ⟨rfl, rfl⟩⟩⟩⟩ s4
  simp only [zak] at s4
  refine Bs (v := ss vq3) rfl (Bs (v := si yq3) rfl (Bs (v := sb oq3) rfl (C5 (Aa (oq3) (fun h5 => ?_) (fun h5 => ?_)))))
  refine Ax (nF h5) (Ab (o' := 0) rfl (Aq (c := si t) s4 Lt rfl (Bd (Aa ((decide (t = 10))) (fun h6 => ?_) (fun h6 => ?_)))))
  have dh6 := of_decide_eq_true h6
  refine Au h6 (Ab (o' := 23) rfl (Aq (c := xn) s4 Lt rfl (Bh (cs := [.sc (.string vq3)]) rfl (Ct s4 fun i7 H s8 => V9 s8 Ls (.here) ⟨_, _, rfl, rfl, rfl, rfl⟩ rfl (by first | omega | (simp only [zbi]; omega)) fun x9 H lx9 s10 => Ab (o' := 23) rfl (Cm (cs' := [.sc (.int .i64 t), .sc (.bool false), .sc (.int .i64 0), .sc (.bool false), .sc (.int .i64 id), .sc (.string (⟨#[]⟩)), .nl, .sc (.string (⟨#[]⟩)), .sc (.int .i64 0), .sc (.bool false), .sc (.int .i64 0), .sc (.bool false), .sc (.string (⟨#[]⟩)), .nl, .sc (.int .i64 0), .sc (.bool false), .sc (.bool false), .sc (.string (⟨#[]⟩)), .sc (.bool false), .nl, .sc (.int .i64 0), .sc (.bool false), xw, x9, xc]) s10 Lt (Ef lx9) rfl (Cr rfl) rfl fun H s11 => ?_)))))
  have e : Db t B (f + 1) a ws ns = Db t B f yq3 ws (ns ++ [vq3]) := by
   clear s0 s4 s8 s10 s11
   simp only [Cs] at h1 h2 h6
   first | (exfalso; omega) | (rw [Db]; simp only [q3]; simp [h1, h2, h5, h6])
  rw [e]
  have hk := bq3.2.2.2 h5
  exact Nj n hn t id B d4 d5 hB cs f m yq3 ws (ns ++ [vq3]) xw xc x9 _ (by omega) (by omega) (by omega) (by first | omega | (simp only [zag, zan]; omega)) lxw lxc lx9 (s11.sel (.cons Do (.cons Do (.cons C6 (.cons C6 (.cons (.here) .nil))))))
  have dh6 := of_decide_eq_false h6
  refine Ax h6 (C4 (Bd (Aa ((decide (yq3 = ((B.size : Nat) : Int)))) (fun h12 => ?_) (fun h12 => ?_))))
  have dh12 := of_decide_eq_true h12
  refine Au h12 (Bh (cs := Ez) rfl (Cm (cs' := Ez) s4 Ls (Am rfl) rfl (Cr rfl) rfl fun H s13 => Av s13 (.here) rfl (Ah (Ch s13 ⟨_, rfl, rfl⟩ (Eb (.nl (Eb (.nl (G8 (.nl (.sc (.sc (.nl (.nl (.nl .nil))))))))))) (Ec ⟨(An ⟨_, _, rfl, rfl⟩), (Ec ⟨(An ⟨_, _, rfl, rfl⟩), (Ha ⟨(An ⟨_, _, rfl, rfl⟩), (Fi ⟨(An ⟨_, _, rfl, rfl⟩), ⟨(An ⟨_, _, rfl, rfl⟩), ⟨(An ⟨_, _, rfl, rfl⟩), trivial⟩⟩⟩)⟩)⟩)⟩)) ?_)))
  have e : K4 t id cs (Db t B (f + 1) a ws ns) = (⟨0, false, 0, false, 0, ⟨#[]⟩, ⟨#[]⟩, ⟨#[]⟩, 0, false, 0, false, ⟨#[]⟩, ⟨#[]⟩, 0, false, false, ⟨#[]⟩, false, ⟨#[]⟩, 0, false, [], [], []⟩ : PacketV) := by
   simp only [Cs] at h1 h2 h6 h12
   rw [Db]; simp only [q3]; simp [K4, Bj, h1, h2, h5, h6, h12]
  ·rw [e]
   first | done | rfl
  have dh12 := of_decide_eq_false h12
  refine Ax h12 (Ab (o' := 22) rfl (Aq (c := xw) s4 Lt rfl ?_))
  have w14 := Ed B yq3
  refine Gk (by omega) (by omega) fun _ => Fc (c := .sc (.int .u8 (A7 B yq3))) rfl (Jz (by omega) (by omega) (Bh (cs := [.sc (.string vq3), .sc (.int .i64 (A7 B yq3))]) rfl (Bh (cs := [.sc (.string vq3), .sc (.int .i64 (A7 B yq3))]) (Js (z' := [.sc (.string vq3), .sc (.int .i64 (A7 B yq3))]) (Am rfl) rfl (Cr rfl) rfl (rfl)) (Ct s4 fun i15 H s16 => V8 (cty := [9, 3]) (e := (⟨vq3, (A7 B yq3)⟩ : WantV)) s16 ⟨_, _, rfl, rfl, rfl, rfl⟩ C6 (.here) rfl rfl (.sc (.sc .nil)) (Fi trivial) rfl (by first | omega | (simp only [zag, zan]; omega)) fun x17 H lx17 s18 => Ab (o' := 22) rfl (Cm (cs' := [.sc (.int .i64 t), .sc (.bool false), .sc (.int .i64 0), .sc (.bool false), .sc (.int .i64 id), .sc (.string (⟨#[]⟩)), .nl, .sc (.string (⟨#[]⟩)), .sc (.int .i64 0), .sc (.bool false), .sc (.int .i64 0), .sc (.bool false), .sc (.string (⟨#[]⟩)), .nl, .sc (.int .i64 0), .sc (.bool false), .sc (.bool false), .sc (.string (⟨#[]⟩)), .sc (.bool false), .nl, .sc (.int .i64 0), .sc (.bool false), x17, xn, xc]) s18 Lt (Ef lx17) rfl (Cr rfl) rfl fun H s19 => Ca (by omega) (by omega) ?_)))))
  have e : Db t B (f + 1) a ws ns = Db t B f (yq3 + 1) (ws ++ [⟨vq3, (A7 B yq3)⟩]) ns := by
   clear s0 s4 s16 s18 s19
   simp only [Cs] at h1 h2 h6 h12
   first | (exfalso; omega) | (rw [Db]; simp only [q3]; simp [h1, h2, h5, h6, h12])
  rw [e]
  have hk := bq3.2.2.2 h5
  exact Nj n hn t id B d4 d5 hB cs f m (yq3 + 1) (ws ++ [⟨vq3, (A7 B yq3)⟩]) ns x17 xc xn _ (by omega) (by omega) (by omega) (by first | omega | (simp only [zag, zan]; omega)) lx17 lxc lxn (s19.sel (.cons C6 (.cons C6 (.cons C6 (.cons C6 (.cons (.here) .nil))))))
  refine Au (nT h5) (Bh (cs := Ez) rfl (Cm (cs' := Ez) s4 Ls (Am rfl) rfl (Cr rfl) rfl fun H s20 => Av s20 (.here) rfl (Ah (Ch s20 ⟨_, rfl, rfl⟩ (Eb (.nl (Eb (.nl (G8 (.nl (.sc (.sc (.nl (.nl (.nl .nil))))))))))) (Ec ⟨(An ⟨_, _, rfl, rfl⟩), (Ec ⟨(An ⟨_, _, rfl, rfl⟩), (Ha ⟨(An ⟨_, _, rfl, rfl⟩), (Fi ⟨(An ⟨_, _, rfl, rfl⟩), ⟨(An ⟨_, _, rfl, rfl⟩), ⟨(An ⟨_, _, rfl, rfl⟩), trivial⟩⟩⟩)⟩)⟩)⟩)) ?_)))
  have e : K4 t id cs (Db t B (f + 1) a ws ns) = (⟨0, false, 0, false, 0, ⟨#[]⟩, ⟨#[]⟩, ⟨#[]⟩, 0, false, 0, false, ⟨#[]⟩, ⟨#[]⟩, 0, false, false, ⟨#[]⟩, false, ⟨#[]⟩, 0, false, [], [], []⟩ : PacketV) := by
   simp only [Cs] at h1 h2
   rw [Db]; simp only [q3]; simp [K4, Bj, h1, h2, h5]
  ·rw [e]
   first | done | rfl
  have dh2 := of_decide_eq_false h2
  refine Af h2 (Ab (o' := 0) rfl (Af h2 (Aq (c := si t) s0 Lt rfl (Af h2 (Bd (Af h1 (A6 h2 (B4 h1 (Aa ((decide (t = 10))) (fun h21 => ?_) (fun h21 => ?_))))))))))
  have dh21 := of_decide_eq_true h21
  refine Au h21 ?_
  obtain ⟨vq22, yq22, oq22, q22⟩ : ∃ w y o, Ce B a = (w, y, o) := ⟨_, _, _, rfl⟩
  have bq22 := Gp q22
  refine Ek s0 rfl (.cons .ro (.cons .sc .nil)) (by have h := Kg (n + 1) (by omega) B a (by omega) (by omega); rw [q22] at h; exact h) rfl (Bk (Bk (Bk Eh))) ?_
  rintro _ _ H ⟨_, rfl, ⟨_, rfl, ⟨_, rfl, ⟨rfl, rfl⟩⟩⟩⟩ s23
  simp only [zak] at s23
  refine Bs (v := ss vq22) rfl (Bs (v := si yq22) rfl (Bs (v := sb oq22) rfl (C5 (Aa (oq22) (fun h24 => ?_) (fun h24 => ?_)))))
  refine Ax (nF h24) (Ab (o' := 0) rfl (Aq (c := .sc (.int .i64 t)) s23 Lt rfl (Bd (Au h21 (Ab (o' := 23) rfl (Aq (c := xn) s23 Lt rfl (Bh (cs := [.sc (.string vq22)]) rfl (Ct s23 fun i25 H s26 => V9 s26 Ls (.here) ⟨_, _, rfl, rfl, rfl, rfl⟩ rfl (by first | omega | (simp only [zbi]; omega)) fun x27 H lx27 s28 => Ab (o' := 23) rfl (Cm (cs' := [.sc (.int .i64 t), .sc (.bool false), .sc (.int .i64 0), .sc (.bool false), .sc (.int .i64 id), .sc (.string (⟨#[]⟩)), .nl, .sc (.string (⟨#[]⟩)), .sc (.int .i64 0), .sc (.bool false), .sc (.int .i64 0), .sc (.bool false), .sc (.string (⟨#[]⟩)), .nl, .sc (.int .i64 0), .sc (.bool false), .sc (.bool false), .sc (.string (⟨#[]⟩)), .sc (.bool false), .nl, .sc (.int .i64 0), .sc (.bool false), xw, x27, xc]) s28 Lt (Ef lx27) rfl (Cr rfl) rfl fun H s29 => ?_)))))))))
  have e : Db t B (f + 1) a ws ns = Db t B f yq22 ws (ns ++ [vq22]) := by
   clear s0 s23 s26 s28 s29
   simp only [Cs] at h1 h2 h21
   first | (exfalso; omega) | (rw [Db]; simp only [q22]; simp [h1, h2, h21, h24])
  rw [e]
  have hk := bq22.2.2.2 h24
  exact Nj n hn t id B d4 d5 hB cs f m yq22 ws (ns ++ [vq22]) xw xc x27 _ (by omega) (by omega) (by omega) (by first | omega | (simp only [zag, zan]; omega)) lxw lxc lx27 (s29.sel (.cons Do (.cons Do (.cons C6 (.cons C6 (.cons (.here) .nil))))))
  refine Au (nT h24) (Bh (cs := Ez) rfl (Cm (cs' := Ez) s23 Ls (Am rfl) rfl (Cr rfl) rfl fun H s30 => Av s30 (.here) rfl (Ah (Ch s30 ⟨_, rfl, rfl⟩ (Eb (.nl (Eb (.nl (G8 (.nl (.sc (.sc (.nl (.nl (.nl .nil))))))))))) (Ec ⟨(An ⟨_, _, rfl, rfl⟩), (Ec ⟨(An ⟨_, _, rfl, rfl⟩), (Ha ⟨(An ⟨_, _, rfl, rfl⟩), (Fi ⟨(An ⟨_, _, rfl, rfl⟩), ⟨(An ⟨_, _, rfl, rfl⟩), ⟨(An ⟨_, _, rfl, rfl⟩), trivial⟩⟩⟩)⟩)⟩)⟩)) ?_)))
  have e : K4 t id cs (Db t B (f + 1) a ws ns) = (⟨0, false, 0, false, 0, ⟨#[]⟩, ⟨#[]⟩, ⟨#[]⟩, 0, false, 0, false, ⟨#[]⟩, ⟨#[]⟩, 0, false, false, ⟨#[]⟩, false, ⟨#[]⟩, 0, false, [], [], []⟩ : PacketV) := by
   simp only [Cs] at h1 h2 h21
   rw [Db]; simp only [q22]; simp [K4, Bj, h1, h2, h21, h24]
  ·rw [e]
   first | done | rfl
  have dh21 := of_decide_eq_false h21
  refine Ax h21 (Av s0 Lt rfl (Cm (cs' := [si t, bF, i0, bF, si id, sE, .nl, sE, i0, bF, i0, bF, sE, .nl, i0, bF, bF, sE, bF, .nl, i0, bF, xw, xn, xc]) s0 Ls (Am (Ad rfl (Ad rfl (Ad rfl (Ad rfl (Ad rfl (Ad rfl (Ad rfl (Ad rfl (Ad rfl (Ad rfl (Ad rfl (Ad rfl (Ad rfl (Ad rfl (Ad rfl (Ad rfl (Ad rfl (Ad rfl (Ad rfl (Ad rfl (Ad rfl (Ad rfl (Ad lxw (Ad lxn (Ad lxc rfl)))))))))))))))))))))))))) rfl (Cr rfl) rfl fun H s31 => Av s31 (.here) rfl (Ah (Ch s31 ⟨_, rfl, rfl⟩ (Eb (.nl (Eb (.nl (G8 (.nl (.sc (.sc (.own C6 (.own Do (.own C6 .nil))))))))))) (Ec ⟨(An ⟨_, _, rfl, rfl⟩), (Ec ⟨(An ⟨_, _, rfl, rfl⟩), (Ha ⟨(An ⟨_, _, rfl, rfl⟩), (Fi ⟨(Cg (Kf ws) (by decide)), ⟨(Cg (Tj ns) (by decide)), ⟨(Cg (Wf cs) (by decide)), trivial⟩⟩⟩)⟩)⟩)⟩)) ?_)))
  have e : K4 t id cs (Db t B (f + 1) a ws ns) = (⟨t, false, 0, false, id, ⟨#[]⟩, ⟨#[]⟩, ⟨#[]⟩, 0, false, 0, false, ⟨#[]⟩, ⟨#[]⟩, 0, false, false, ⟨#[]⟩, false, ⟨#[]⟩, 0, false, ws, ns, cs⟩ : PacketV) := by
   simp only [Cs] at h1 h2 h21
   rw [Db]; simp [K4, Bj, h1, h2, h21]
  ·rw [e]
   first | done | rfl
  have dh1 := of_decide_eq_false h1
  refine Ac h1 (Ac h1 (Ac h1 (Ac h1 (D7 (D7 (D7 (Ac h1 (A6 h1 (Ax rfl (Av s0 Lt rfl (Cm (cs' := [si t, bF, i0, bF, si id, sE, .nl, sE, i0, bF, i0, bF, sE, .nl, i0, bF, bF, sE, bF, .nl, i0, bF, xw, xn, xc]) s0 Ls (Am (Ad rfl (Ad rfl (Ad rfl (Ad rfl (Ad rfl (Ad rfl (Ad rfl (Ad rfl (Ad rfl (Ad rfl (Ad rfl (Ad rfl (Ad rfl (Ad rfl (Ad rfl (Ad rfl (Ad rfl (Ad rfl (Ad rfl (Ad rfl (Ad rfl (Ad rfl (Ad lxw (Ad lxn (Ad lxc rfl)))))))))))))))))))))))))) rfl (Cr rfl) rfl fun H s32 => Av s32 (.here) rfl (Ah (Ch s32 ⟨_, rfl, rfl⟩ (Eb (.nl (Eb (.nl (G8 (.nl (.sc (.sc (.own C6 (.own Do (.own C6 .nil))))))))))) (Ec ⟨(An ⟨_, _, rfl, rfl⟩), (Ec ⟨(An ⟨_, _, rfl, rfl⟩), (Ha ⟨(An ⟨_, _, rfl, rfl⟩), (Fi ⟨(Cg (Kf ws) (by decide)), ⟨(Cg (Tj ns) (by decide)), ⟨(Cg (Wf cs) (by decide)), trivial⟩⟩⟩)⟩)⟩)⟩)) ?_))))))))))))
  have e : K4 t id cs (Db t B (f + 1) a ws ns) = (⟨t, false, 0, false, id, ⟨#[]⟩, ⟨#[]⟩, ⟨#[]⟩, 0, false, 0, false, ⟨#[]⟩, ⟨#[]⟩, 0, false, false, ⟨#[]⟩, false, ⟨#[]⟩, 0, false, ws, ns, cs⟩ : PacketV) := by
   simp only [Cs] at h1
   rw [Db]; simp [K4, Bj, h1]
  ·rw [e]
   first | done | rfl
theorem Sl (n : Nat) (hn : 1048576 < n) (t id : Int) (B : ByteArray) (d4 d5 : Nat) (hB : B.size ≤ 1048576) (a : Int) (ha : 0 ≤ a ∧ a ≤ ((B.size : Nat) : Int)) : ∀ (f m : Nat) (i : Int) (cs : List Int) (xc : AV) (H : Ae), f ≤ m → ((B.size : Nat) : Int) - i < f → 0 ≤ i → ((cs.length : Nat) : Int) ≤ i ∧ i ≤ ((B.size : Nat) : Int) → Bn xc = true → Sep H [.own xc 57 (E1 cs), .blk d4 [.sc (.int .i64 0), .sc (.bool false), .sc (.int .i64 0), .sc (.bool false), .sc (.int .i64 0), .sc (.string (⟨#[]⟩)), .nl, .sc (.string (⟨#[]⟩)), .sc (.int .i64 0), .sc (.bool false), .sc (.int .i64 0), .sc (.bool false), .sc (.string (⟨#[]⟩)), .nl, .sc (.int .i64 0), .sc (.bool false), .sc (.bool false), .sc (.string (⟨#[]⟩)), .sc (.bool false), .nl, .sc (.int .i64 0), .sc (.bool false), .nl, .nl, .nl] true, .blk d5 [.sc (.int .i64 t), .sc (.bool false), .sc (.int .i64 0), .sc (.bool false), .sc (.int .i64 id), .sc (.string (⟨#[]⟩)), .nl, .sc (.string (⟨#[]⟩)), .sc (.int .i64 0), .sc (.bool false), .sc (.int .i64 0), .sc (.bool false), .sc (.string (⟨#[]⟩)), .nl, .sc (.int .i64 0), .sc (.bool false), .sc (.bool false), .sc (.string (⟨#[]⟩)), .sc (.bool false), .nl, .sc (.int .i64 0), .sc (.bool false), .nl, .nl, xc] true] → Gd (· = some (.agg (A0 (K4 t id (F8 B f i cs) (Db t B (B.size + 1) a [] []))))) (Nn (PR (n + 6) AV) (n + 6) (fun x H => Bm A4 E0.tp 59 H x) m (Ai B) (.ptr d4 0) (.ptr d5 0) (.sc (.int .i64 a)) (.sc (.int .i64 i)) H)
 | 0, m, i, cs, xc, H, hm, hM, h0, h1, lxc, s0 => by
  exfalso
  omega
 | f + 1, m + 1, i, cs, xc, H, hm, hM, h0, h1, lxc, s0 => by
  rw [Nn]
  try simp only [Cz, Bx, A9, Dz, A5, Aw, B3, Bw, C2, D3, Dm]
  refine C4 (D4 (Aa ((decide (i < ((B.size : Nat) : Int)))) (fun h1 => ?_) (fun h1 => ?_)))
  have dh1 := of_decide_eq_true h1
  refine Au h1 (Ab (o' := 24) rfl (Aq (c := xc) s0 Do rfl ?_))
  have w2 := Ed B i
  refine Gk (by omega) (by omega) fun _ => Fc (c := .sc (.int .u8 (A7 B i))) rfl (Jz (by omega) (by omega) (Bh (cs := [.sc (.int .i64 (A7 B i))]) rfl (Ct s0 fun i3 H s4 => Aa9 s4 C6 (.here) ⟨_, _, rfl, rfl, rfl, rfl⟩ rfl (by first | omega | (simp only [zbi]; omega)) fun x5 H lx5 s6 => Ab (o' := 24) rfl (A8 s6 Do lx5 rfl fun H s7 => Ca (by omega) (by omega) ?_))))
  have e : F8 B (f + 1) i cs = F8 B f (i + 1) (cs ++ [(A7 B i)]) := by
   simp only [Cs] at h1
   rw [F8]; simp [h1]
  rw [e]
  exact Sl n hn t id B d4 d5 hB a ha f m (i + 1) (cs ++ [(A7 B i)]) x5 _ (by omega) (by omega) (by omega) (by first | omega | (simp only [zag, zan]; omega)) lx5 (s7.sel (.cons C6 (.cons C6 (.cons (.here) .nil))))
  have dh1 := of_decide_eq_false h1
  refine Ax h1 ?_
  have e : F8 B (f + 1) i cs = cs := by
   simp only [Cs] at h1
   rw [F8]; simp [h1]
  rw [e]
  have s8 := s0.nl (ty := 56) ⟨_, _, rfl, rfl⟩
  have s9 := s8.nl (ty := 55) ⟨_, _, rfl, rfl⟩
  exact Nj n hn t id B d4 d5 hB cs (B.size + 1) _ a [] [] .nl xc .nl _ (by omega) (by omega) (by omega) (by first | omega | (simp only [zat]; omega)) rfl lxc rfl (s9.sel (.cons (.here) (.cons C6 (.cons (.here) (.cons (.here) (.cons (.here) .nil))))))
theorem Agt (n : Nat) (hn : 1048576 < n) (first : Int) (B : ByteArray) (hf : 0 ≤ first ∧ first < 256) (hB : B.size ≤ 1048576) : Di E0 (n + 7) 59 63 [.sc (.int .i64 first), Ai B] = some (.agg (A0 (Dx first B))) := by
 rw [Be, Ahv, f63]
 refine C7 (G := (· = some (.agg (A0 (Dx first B))))) ?_
 try simp only [Fk, Bx, A9, Dz, A5, D8, Aw, Bg, Pr.gT, Pr.gF, Pr.hT, Pr.hF, Pr.kT, Pr.kF, Bv, B3, Bw, G4, C2, D3, Dm, Hr]
 have s0 : Sep [] [] := C1
 refine Hw s0 fun i1 H s2 => Ns (by omega) (by omega) (by decide) (Bh (cs := [si (first / 16), bF, i0, bF, i0, sE, .nl, sE, i0, bF, i0, bF, sE, .nl, i0, bF, bF, sE, bF, .nl, i0, bF, .nl, .nl, .nl]) rfl (Hw s2 fun i3 H s4 => Cm (cs' := [si (first / 16), bF, i0, bF, i0, sE, .nl, sE, i0, bF, i0, bF, sE, .nl, i0, bF, bF, sE, bF, .nl, i0, bF, .nl, .nl, .nl]) s4 (.here) (Am rfl) rfl (Cr rfl) rfl fun H s5 => Ab (o' := 0) rfl (Aq (c := si (first / 16)) s5 (.here) rfl (Bd (Aa ((decide ((first / 16) = 1))) (fun h6 => ?_) (fun h6 => ?_))))))
 have dh6 := of_decide_eq_true h6
 refine Au h6 (Pw s5 rfl (.cons .ro .nil) (Aab n (by omega) B hB) ⟨_, rfl, rfl⟩ (Jc _) ?_)
 rintro _ _ H ⟨x7, x8, x9, x10, x11, x12, lx7, lx8, lx9, lx10, lx11, lx12, rfl, rfl⟩ s13
 simp only [zak, za0] at s13
 refine Cm (cs' := [si ((A1 B).fType), .sc (.bool (A1 B).fDup), si ((A1 B).fQos), .sc (.bool (A1 B).fRetain), si ((A1 B).fId), ss ((A1 B).fTopic), x7, ss ((A1 B).fClient), si ((A1 B).fLevel), .sc (.bool (A1 B).fClean), si ((A1 B).fKeep), .sc (.bool (A1 B).fHasWill), ss ((A1 B).fWTopic), x8, si ((A1 B).fWQos), .sc (.bool (A1 B).fWRetain), .sc (.bool (A1 B).fHasUser), ss ((A1 B).fUser), .sc (.bool (A1 B).fHasPass), x9, si ((A1 B).fCode), .sc (.bool (A1 B).fPresent), x10, x11, x12]) s13 zP7 (Am (Ad rfl (Ad rfl (Ad rfl (Ad rfl (Ad rfl (Ad rfl (Ad lx7 (Ad rfl (Ad rfl (Ad rfl (Ad rfl (Ad rfl (Ad rfl (Ad lx8 (Ad rfl (Ad rfl (Ad rfl (Ad rfl (Ad rfl (Ad lx9 (Ad rfl (Ad rfl (Ad lx10 (Ad lx11 (Ad lx12 rfl)))))))))))))))))))))))))) rfl (Cr rfl) rfl fun H s14 => Av s14 (.here) rfl (Ah (Ch s14 ⟨_, rfl, rfl⟩ (Eb (.own Ww (Eb (.own Uk (G8 (.own Lt (.sc (.sc (.own Ls (.own Do (.own C6 .nil))))))))))) (Ec ⟨(Cg (Df ((A1 B).fBody)) (by decide)), (Ec ⟨(Cg (Df ((A1 B).fWBody)) (by decide)), (Ha ⟨(Cg (Df ((A1 B).fPass)) (by decide)), (Fi ⟨(Cg (Kf ((A1 B).fWants)) (by decide)), ⟨(Cg (Tj ((A1 B).fNames)) (by decide)), ⟨(Cg (Wf ((A1 B).fCodes)) (by decide)), trivial⟩⟩⟩)⟩)⟩)⟩)) ?_)
 have e : Dx first B = (⟨(A1 B).fType, (A1 B).fDup, (A1 B).fQos, (A1 B).fRetain, (A1 B).fId, (A1 B).fTopic, (A1 B).fBody, (A1 B).fClient, (A1 B).fLevel, (A1 B).fClean, (A1 B).fKeep, (A1 B).fHasWill, (A1 B).fWTopic, (A1 B).fWBody, (A1 B).fWQos, (A1 B).fWRetain, (A1 B).fHasUser, (A1 B).fUser, (A1 B).fHasPass, (A1 B).fPass, (A1 B).fCode, (A1 B).fPresent, ((A1 B).fWants), (A1 B).fNames, (A1 B).fCodes⟩ : PacketV) := by
  clear s0 s2 s4 s5 s13 s14
  simp only [Cs] at h6
  unfold Dx Hk Fs Kk; first | (simp only [h6, if_true, if_false, or_true, or_false, false_or, true_or, zaa, reduceIte, and_true, and_false, true_and, false_and, Ay]; done) | (simp only [h6, if_true, if_false, or_true, or_false, false_or, true_or, zaa, reduceIte, and_true, and_false, true_and, false_and, Ay]; rfl) | (simp only [h6, if_true, if_false, or_true, or_false, false_or, true_or, zaa, reduceIte, and_true, and_false, true_and, false_and, Ay]; simp [Bj, h6]; done) | (simp only [h6, if_true, if_false, or_true, or_false, false_or, true_or, zaa, reduceIte, and_true, and_false, true_and, false_and, Ay]; simp [Bj, h6]; omega)
 ·rw [e]
  first | done | rfl
 have dh6 := of_decide_eq_false h6
 refine Ax h6 (Ab (o' := 0) rfl (Aq (c := si (first / 16)) s5 (.here) rfl (Bd (Aa ((decide ((first / 16) = 2))) (fun h15 => ?_) (fun h15 => ?_)))))
 have dh15 := of_decide_eq_true h15
 refine Af h15 (Af h15 (C4 (Af h15 (Bd (B4 h15 (Aa ((decide (((B.size : Nat) : Int) = 2))) (fun h16 => ?_) (fun h16 => ?_)))))))
 have dh16 := of_decide_eq_true h16
 refine Au h16 ?_
 have w17 := Ed B 0
 refine Gk (by omega) (by omega) fun _ => Fc (c := su (A7 B 0)) rfl (Ov (v := sb ((A7 B 0) == 1)) (fun k => rfl) (Ab (o' := 21) rfl (A8 s5 (.here) rfl rfl fun H s18 => ?_)))
 have w19 := Ed B 1
 refine Gk (by omega) (by omega) fun _ => Fc (c := su (A7 B 1)) rfl (Jz (by omega) (by omega) (Ab (o' := 20) rfl (A8 s18 (.here) rfl rfl fun H s20 => Av s20 (.here) rfl (Cm (cs' := [si (first / 16), bF, i0, bF, i0, sE, .nl, sE, i0, bF, i0, bF, sE, .nl, i0, bF, bF, sE, bF, .nl, si (A7 B 1), sb ((A7 B 0) == 1), .nl, .nl, .nl]) s20 C6 (Am rfl) rfl (Cr rfl) rfl fun H s21 => Av s21 (.here) rfl (Ah (Ch s21 ⟨_, rfl, rfl⟩ (Eb (.nl (Eb (.nl (G8 (.nl (.sc (.sc (.nl (.nl (.nl .nil))))))))))) (Ec ⟨(An ⟨_, _, rfl, rfl⟩), (Ec ⟨(An ⟨_, _, rfl, rfl⟩), (Ha ⟨(An ⟨_, _, rfl, rfl⟩), (Fi ⟨(An ⟨_, _, rfl, rfl⟩), ⟨(An ⟨_, _, rfl, rfl⟩), ⟨(An ⟨_, _, rfl, rfl⟩), trivial⟩⟩⟩)⟩)⟩)⟩)) ?_)))))
 have e : Dx first B = (⟨(first / 16), false, 0, false, 0, ⟨#[]⟩, ⟨#[]⟩, ⟨#[]⟩, 0, false, 0, false, ⟨#[]⟩, ⟨#[]⟩, 0, false, false, ⟨#[]⟩, false, ⟨#[]⟩, (A7 B 1), ((A7 B 0) == 1), [], [], []⟩ : PacketV) := by
  clear s0 s2 s4 s5 s18 s20 s21
  simp only [Cs] at h6 h15 h16
  unfold Dx Hk Fs Kk; first | (simp only [h6, h15, h16, if_true, if_false, or_true, or_false, false_or, true_or, zaa, reduceIte, and_true, and_false, true_and, false_and, Ay]; done) | (simp only [h6, h15, h16, if_true, if_false, or_true, or_false, false_or, true_or, zaa, reduceIte, and_true, and_false, true_and, false_and, Ay]; rfl) | (simp only [h6, h15, h16, if_true, if_false, or_true, or_false, false_or, true_or, zaa, reduceIte, and_true, and_false, true_and, false_and, Ay]; simp [Bj, h6, h15, h16]; done) | (simp only [h6, h15, h16, if_true, if_false, or_true, or_false, false_or, true_or, zaa, reduceIte, and_true, and_false, true_and, false_and, Ay]; simp [Bj, h6, h15, h16]; omega)
 ·rw [e]
  first | done | rfl
 have dh16 := of_decide_eq_false h16
 refine Ax h16 (Ab (o' := 0) rfl (Aq (c := si (first / 16)) s5 (.here) rfl (Bd (Aa ((decide ((first / 16) = 3))) (fun h22 => ?_) (fun h22 => ?_)))))
 have dh22 := of_decide_eq_true h22
 refine Au h22 (Gj rfl (Eo (Ab (o' := 1) rfl (A8 s5 (.here) rfl rfl fun H s23 => Rj 2 rfl (by decide) (Gj rfl (Ab (o' := 2) rfl (A8 s23 (.here) rfl rfl fun H s24 => Gj rfl (Eo (Ab (o' := 3) rfl (A8 s24 (.here) rfl rfl fun H s25 => ?_))))))))))
 obtain ⟨vq26, yq26, oq26, q26⟩ : ∃ w y o, Ce B 0 = (w, y, o) := ⟨_, _, _, rfl⟩
 have bq26 := Gp q26
 refine Ek s25 rfl (.cons .ro (.cons .sc .nil)) (by have h := Kg (n + 1) (by omega) B 0 (by omega) (by omega); rw [q26] at h; exact h) rfl (Bk (Bk (Bk Eh))) ?_
 rintro _ _ H ⟨_, rfl, ⟨_, rfl, ⟨_, rfl, ⟨rfl, rfl⟩⟩⟩⟩ s27
 simp only [zak] at s27
 refine Bs (v := ss vq26) rfl (Bs (v := si yq26) rfl (Bs (v := sb oq26) rfl (C5 (Aa (oq26) (fun h28 => ?_) (fun h28 => ?_)))))
 refine Ax (nF h28) (Ab (o' := 5) rfl (A8 s27 (.here) rfl rfl fun H s29 => Ab (o' := 2) rfl (Aq (c := si (bits .and .i64 (first / 2) 3)) s29 (.here) rfl (Eo (Dn (Aa ((decide (0 < (bits .and .i64 (first / 2) 3)))) (fun h30 => ?_) (fun h30 => ?_)))))))
 have dh30 := of_decide_eq_true h30
 refine Au h30 ?_
 obtain ⟨wq31, yq31, oq31, q31⟩ : ∃ w y o, Br B yq26 = (w, y, o) := ⟨_, _, _, rfl⟩
 have bq31 := F1 q31
 refine Ek s29 rfl (.cons .ro (.cons .sc .nil)) (by have h := Om (n + 5) (by omega) B yq26 (by omega) (by omega); rw [q31] at h; exact h) rfl (Bk (Bk (Bk Eh))) ?_
 rintro _ _ H ⟨_, rfl, ⟨_, rfl, ⟨_, rfl, ⟨rfl, rfl⟩⟩⟩⟩ s32
 simp only [zak] at s32
 refine Bs (v := si wq31) rfl (Bs (v := si yq31) rfl (Bs (v := sb oq31) rfl (C5 (Aa (oq31) (fun h33 => ?_) (fun h33 => ?_)))))
 refine Ax (nF h33) (Ab (o' := 4) rfl (A8 s32 (.here) rfl rfl fun H s34 => Gl yq31 ((B.size : Nat) : Int) rfl rfl (by omega) (by omega) (by omega) ?_))
 have z35 := zau (a := B) (b := yq31.toNat) (e := ((B.size : Nat) : Int).toNat)
 refine Ip s34 (by omega) fun x36 H lx36 s37 => Ab (o' := 6) rfl (A8 s37 C6 lx36 rfl fun H s38 => Av s38 (.here) rfl (Cm (cs' := [si (first / 16), sb (decide (0 < (bits .and .i64 first 8))), si (bits .and .i64 (first / 2) 3), sb (decide (0 < (bits .and .i64 first 1))), si wq31, ss vq26, x36, sE, i0, bF, i0, bF, sE, .nl, i0, bF, bF, sE, bF, .nl, i0, bF, .nl, .nl, .nl]) s38 Do (Am (Ad rfl (Ad rfl (Ad rfl (Ad rfl (Ad rfl (Ad rfl (Ad lx36 rfl)))))))) rfl (Cr rfl) rfl fun H s39 => Av s39 (.here) rfl (Ah (Ch s39 ⟨_, rfl, rfl⟩ (Eb (.own Do (Eb (.nl (G8 (.nl (.sc (.sc (.nl (.nl (.nl .nil))))))))))) (Ec ⟨(Cg (Df (B.extract yq31.toNat ((B.size : Nat) : Int).toNat)) (by decide)), (Ec ⟨(An ⟨_, _, rfl, rfl⟩), (Ha ⟨(An ⟨_, _, rfl, rfl⟩), (Fi ⟨(An ⟨_, _, rfl, rfl⟩), ⟨(An ⟨_, _, rfl, rfl⟩), ⟨(An ⟨_, _, rfl, rfl⟩), trivial⟩⟩⟩)⟩)⟩)⟩)) ?_)))
 have e : Dx first B = (⟨(first / 16), (decide (0 < (bits .and .i64 first 8))), (bits .and .i64 (first / 2) 3), (decide (0 < (bits .and .i64 first 1))), wq31, vq26, (B.extract yq31.toNat ((B.size : Nat) : Int).toNat), ⟨#[]⟩, 0, false, 0, false, ⟨#[]⟩, ⟨#[]⟩, 0, false, false, ⟨#[]⟩, false, ⟨#[]⟩, 0, false, [], [], []⟩ : PacketV) := by
  clear s0 s2 s4 s5 s23 s24 s25 s27 s29 s32 s34 s37 s38 s39
  simp only [Cs] at h6 h15 h16 h22 h30
  unfold Dx Hk Fs Kk; first | (simp only [h6, h15, h16, h22, h30, h28, h33, q26, q31, if_true, if_false, or_true, or_false, false_or, true_or, zaa, reduceIte, and_true, and_false, true_and, false_and, Ay]; done) | (simp only [h6, h15, h16, h22, h30, h28, h33, q26, q31, if_true, if_false, or_true, or_false, false_or, true_or, zaa, reduceIte, and_true, and_false, true_and, false_and, Ay]; rfl) | (simp only [h6, h15, h16, h22, h30, h28, h33, q26, q31, if_true, if_false, or_true, or_false, false_or, true_or, zaa, reduceIte, and_true, and_false, true_and, false_and, Ay]; simp [Bj, h6, h15, h16, h22, h30, h28, h33]; done) | (simp only [h6, h15, h16, h22, h30, h28, h33, q26, q31, if_true, if_false, or_true, or_false, false_or, true_or, zaa, reduceIte, and_true, and_false, true_and, false_and, Ay]; simp [Bj, h6, h15, h16, h22, h30, h28, h33]; omega)
 ·rw [e]
  first | done | rfl
 refine Au (nT h33) (Bh (cs := Ez) rfl (Cm (cs' := Ez) s32 C6 (Am rfl) rfl (Cr rfl) rfl fun H s40 => Av s40 (.here) rfl (Ah (Ch s40 ⟨_, rfl, rfl⟩ (Eb (.nl (Eb (.nl (G8 (.nl (.sc (.sc (.nl (.nl (.nl .nil))))))))))) (Ec ⟨(An ⟨_, _, rfl, rfl⟩), (Ec ⟨(An ⟨_, _, rfl, rfl⟩), (Ha ⟨(An ⟨_, _, rfl, rfl⟩), (Fi ⟨(An ⟨_, _, rfl, rfl⟩), ⟨(An ⟨_, _, rfl, rfl⟩), ⟨(An ⟨_, _, rfl, rfl⟩), trivial⟩⟩⟩)⟩)⟩)⟩)) ?_)))
 have e : Dx first B = (⟨0, false, 0, false, 0, ⟨#[]⟩, ⟨#[]⟩, ⟨#[]⟩, 0, false, 0, false, ⟨#[]⟩, ⟨#[]⟩, 0, false, false, ⟨#[]⟩, false, ⟨#[]⟩, 0, false, [], [], []⟩ : PacketV) := by
  clear s0 s2 s4 s5 s23 s24 s25 s27 s29 s32 s40
  simp only [Cs] at h6 h15 h16 h22 h30
  unfold Dx Hk Fs Kk; first | (simp only [h6, h15, h16, h22, h30, h28, h33, q26, q31, if_true, if_false, or_true, or_false, false_or, true_or, zaa, reduceIte, and_true, and_false, true_and, false_and, Ay]; done) | (simp only [h6, h15, h16, h22, h30, h28, h33, q26, q31, if_true, if_false, or_true, or_false, false_or, true_or, zaa, reduceIte, and_true, and_false, true_and, false_and, Ay]; rfl) | (simp only [h6, h15, h16, h22, h30, h28, h33, q26, q31, if_true, if_false, or_true, or_false, false_or, true_or, zaa, reduceIte, and_true, and_false, true_and, false_and, Ay]; simp [Bj, h6, h15, h16, h22, h30, h28, h33]; done) | (simp only [h6, h15, h16, h22, h30, h28, h33, q26, q31, if_true, if_false, or_true, or_false, false_or, true_or, zaa, reduceIte, and_true, and_false, true_and, false_and, Ay]; simp [Bj, h6, h15, h16, h22, h30, h28, h33]; omega)
 ·rw [e]
  first | done | rfl
 have dh30 := of_decide_eq_false h30
 refine Ax h30 (Gl yq26 ((B.size : Nat) : Int) rfl rfl (by omega) (by omega) (by omega) ?_)
 have z41 := zau (a := B) (b := yq26.toNat) (e := ((B.size : Nat) : Int).toNat)
 refine Ip s29 (by omega) fun x42 H lx42 s43 => Ab (o' := 6) rfl (A8 s43 C6 lx42 rfl fun H s44 => Av s44 (.here) rfl (Cm (cs' := [si (first / 16), sb (decide (0 < (bits .and .i64 first 8))), si (bits .and .i64 (first / 2) 3), sb (decide (0 < (bits .and .i64 first 1))), i0, ss vq26, x42, sE, i0, bF, i0, bF, sE, .nl, i0, bF, bF, sE, bF, .nl, i0, bF, .nl, .nl, .nl]) s44 Do (Am (Ad rfl (Ad rfl (Ad rfl (Ad rfl (Ad rfl (Ad rfl (Ad lx42 rfl)))))))) rfl (Cr rfl) rfl fun H s45 => Av s45 (.here) rfl (Ah (Ch s45 ⟨_, rfl, rfl⟩ (Eb (.own Do (Eb (.nl (G8 (.nl (.sc (.sc (.nl (.nl (.nl .nil))))))))))) (Ec ⟨(Cg (Df (B.extract yq26.toNat ((B.size : Nat) : Int).toNat)) (by decide)), (Ec ⟨(An ⟨_, _, rfl, rfl⟩), (Ha ⟨(An ⟨_, _, rfl, rfl⟩), (Fi ⟨(An ⟨_, _, rfl, rfl⟩), ⟨(An ⟨_, _, rfl, rfl⟩), ⟨(An ⟨_, _, rfl, rfl⟩), trivial⟩⟩⟩)⟩)⟩)⟩)) ?_)))
 have e : Dx first B = (⟨(first / 16), (decide (0 < (bits .and .i64 first 8))), (bits .and .i64 (first / 2) 3), (decide (0 < (bits .and .i64 first 1))), 0, vq26, (B.extract yq26.toNat ((B.size : Nat) : Int).toNat), ⟨#[]⟩, 0, false, 0, false, ⟨#[]⟩, ⟨#[]⟩, 0, false, false, ⟨#[]⟩, false, ⟨#[]⟩, 0, false, [], [], []⟩ : PacketV) := by
  clear s0 s2 s4 s5 s23 s24 s25 s27 s29 s43 s44 s45
  simp only [Cs] at h6 h15 h16 h22 h30
  unfold Dx Hk Fs Kk; first | (simp only [h6, h15, h16, h22, h30, h28, q26, if_true, if_false, or_true, or_false, false_or, true_or, zaa, reduceIte, and_true, and_false, true_and, false_and, Ay]; done) | (simp only [h6, h15, h16, h22, h30, h28, q26, if_true, if_false, or_true, or_false, false_or, true_or, zaa, reduceIte, and_true, and_false, true_and, false_and, Ay]; rfl) | (simp only [h6, h15, h16, h22, h30, h28, q26, if_true, if_false, or_true, or_false, false_or, true_or, zaa, reduceIte, and_true, and_false, true_and, false_and, Ay]; simp [Bj, h6, h15, h16, h22, h30, h28]; done) | (simp only [h6, h15, h16, h22, h30, h28, q26, if_true, if_false, or_true, or_false, false_or, true_or, zaa, reduceIte, and_true, and_false, true_and, false_and, Ay]; simp [Bj, h6, h15, h16, h22, h30, h28]; omega)
 ·rw [e]
  first | done | rfl
 refine Au (nT h28) (Bh (cs := Ez) rfl (Cm (cs' := Ez) s27 C6 (Am rfl) rfl (Cr rfl) rfl fun H s46 => Av s46 (.here) rfl (Ah (Ch s46 ⟨_, rfl, rfl⟩ (Eb (.nl (Eb (.nl (G8 (.nl (.sc (.sc (.nl (.nl (.nl .nil))))))))))) (Ec ⟨(An ⟨_, _, rfl, rfl⟩), (Ec ⟨(An ⟨_, _, rfl, rfl⟩), (Ha ⟨(An ⟨_, _, rfl, rfl⟩), (Fi ⟨(An ⟨_, _, rfl, rfl⟩), ⟨(An ⟨_, _, rfl, rfl⟩), ⟨(An ⟨_, _, rfl, rfl⟩), trivial⟩⟩⟩)⟩)⟩)⟩)) ?_)))
 have e : Dx first B = (⟨0, false, 0, false, 0, ⟨#[]⟩, ⟨#[]⟩, ⟨#[]⟩, 0, false, 0, false, ⟨#[]⟩, ⟨#[]⟩, 0, false, false, ⟨#[]⟩, false, ⟨#[]⟩, 0, false, [], [], []⟩ : PacketV) := by
  clear s0 s2 s4 s5 s23 s24 s25 s27 s46
  simp only [Cs] at h6 h15 h16 h22
  unfold Dx Hk Fs Kk; first | (simp only [h6, h15, h16, h22, h28, q26, if_true, if_false, or_true, or_false, false_or, true_or, zaa, reduceIte, and_true, and_false, true_and, false_and, Ay]; done) | (simp only [h6, h15, h16, h22, h28, q26, if_true, if_false, or_true, or_false, false_or, true_or, zaa, reduceIte, and_true, and_false, true_and, false_and, Ay]; rfl) | (simp only [h6, h15, h16, h22, h28, q26, if_true, if_false, or_true, or_false, false_or, true_or, zaa, reduceIte, and_true, and_false, true_and, false_and, Ay]; simp [Bj, h6, h15, h16, h22, h28]; done) | (simp only [h6, h15, h16, h22, h28, q26, if_true, if_false, or_true, or_false, false_or, true_or, zaa, reduceIte, and_true, and_false, true_and, false_and, Ay]; simp [Bj, h6, h15, h16, h22, h28]; omega)
 ·rw [e]
  first | done | rfl
 have dh22 := of_decide_eq_false h22
 refine Ax h22 (Ab (o' := 0) rfl (Aq (c := si (first / 16)) s5 (.here) rfl (D4 (Dn (Aa ((decide ((first / 16) < 12))) (fun h47 => ?_) (fun h47 => ?_))))))
 have dh47 := of_decide_eq_true h47
 refine Au h47 ?_
 obtain ⟨wq48, yq48, oq48, q48⟩ : ∃ w y o, Br B 0 = (w, y, o) := ⟨_, _, _, rfl⟩
 have bq48 := F1 q48
 refine Ek s5 rfl (.cons .ro (.cons .sc .nil)) (by have h := Om (n + 5) (by omega) B 0 (by omega) (by omega); rw [q48] at h; exact h) rfl (Bk (Bk (Bk Eh))) ?_
 rintro _ _ H ⟨_, rfl, ⟨_, rfl, ⟨_, rfl, ⟨rfl, rfl⟩⟩⟩⟩ s49
 simp only [zak] at s49
 refine Bs (v := si wq48) rfl (Bs (v := si yq48) rfl (Bs (v := sb oq48) rfl (C5 (Aa (oq48) (fun h50 => ?_) (fun h50 => ?_)))))
 refine Ax (nF h50) (Ab (o' := 4) rfl (A8 s49 (.here) rfl rfl fun H s51 => Ab (o' := 0) rfl (Aq (c := si (first / 16)) s51 (.here) rfl (Bd (Dn (Aa ((decide ((first / 16) = 9))) (fun h52 => ?_) (fun h52 => ?_)))))))
 have dh52 := of_decide_eq_true h52
 refine Au h52 ?_
 have e : Dx first B = K4 (first / 16) wq48 (F8 B (B.size + 1) yq48 []) (Db (first / 16) B (B.size + 1) yq48 [] []) := by
  clear s0 s2 s4 s5 s49 s51
  simp only [Cs] at h6 h15 h16 h22 h47 h52
  unfold Dx Hk Fs Kk; first | (simp only [h6, h15, h16, h22, h47, h52, h50, q48, if_true, if_false, or_true, or_false, false_or, true_or, zaa, reduceIte, and_true, and_false, true_and, false_and, Ay]; done) | (simp only [h6, h15, h16, h22, h47, h52, h50, q48, if_true, if_false, or_true, or_false, false_or, true_or, zaa, reduceIte, and_true, and_false, true_and, false_and, Ay]; rfl) | (simp only [h6, h15, h16, h22, h47, h52, h50, q48, if_true, if_false, or_true, or_false, false_or, true_or, zaa, reduceIte, and_true, and_false, true_and, false_and, Ay]; simp [Bj, h6, h15, h16, h22, h47, h52, h50]; done) | (simp only [h6, h15, h16, h22, h47, h52, h50, q48, if_true, if_false, or_true, or_false, false_or, true_or, zaa, reduceIte, and_true, and_false, true_and, false_and, Ay]; simp [Bj, h6, h15, h16, h22, h47, h52, h50]; omega)
 rw [e]
 have s53 := s51.nl (ty := 57) ⟨_, _, rfl, rfl⟩
 exact Sl n hn (first / 16) wq48 B i1 i3 hB yq48 (by omega) (B.size + 1) _ yq48 [] .nl _ (by omega) (by omega) (by omega) (by first | omega | (simp only [zat]; omega)) rfl (s53.sel (.cons (.here) (.cons C6 (.cons (.here) .nil))))
 have dh52 := of_decide_eq_false h52
 refine Ax h52 ?_
 have e : Dx first B = K4 (first / 16) wq48 [] (Db (first / 16) B (B.size + 1) yq48 [] []) := by
  clear s0 s2 s4 s5 s49 s51
  simp only [Cs] at h6 h15 h16 h22 h47 h52
  unfold Dx Hk Fs Kk; first | (simp only [h6, h15, h16, h22, h47, h52, h50, q48, if_true, if_false, or_true, or_false, false_or, true_or, zaa, reduceIte, and_true, and_false, true_and, false_and, Ay]; done) | (simp only [h6, h15, h16, h22, h47, h52, h50, q48, if_true, if_false, or_true, or_false, false_or, true_or, zaa, reduceIte, and_true, and_false, true_and, false_and, Ay]; rfl) | (simp only [h6, h15, h16, h22, h47, h52, h50, q48, if_true, if_false, or_true, or_false, false_or, true_or, zaa, reduceIte, and_true, and_false, true_and, false_and, Ay]; simp [Bj, h6, h15, h16, h22, h47, h52, h50]; done) | (simp only [h6, h15, h16, h22, h47, h52, h50, q48, if_true, if_false, or_true, or_false, false_or, true_or, zaa, reduceIte, and_true, and_false, true_and, false_and, Ay]; simp [Bj, h6, h15, h16, h22, h47, h52, h50]; omega)
 rw [e]
 have s54 := s51.nl (ty := 57) ⟨_, _, rfl, rfl⟩
 have s55 := s54.nl (ty := 56) ⟨_, _, rfl, rfl⟩
 have s56 := s55.nl (ty := 55) ⟨_, _, rfl, rfl⟩
 exact Nj n hn (first / 16) wq48 B i1 i3 hB [] (B.size + 1) _ yq48 [] [] .nl .nl .nl _ (by omega) (by omega) (by omega) (by first | omega | (simp only [zat]; omega)) rfl rfl rfl (s56.sel (.cons (.here) (.cons C6 (.cons (.here) (.cons C6 (.cons (.here) .nil))))))
 refine Au (nT h50) (Bh (cs := Ez) rfl (Cm (cs' := Ez) s49 C6 (Am rfl) rfl (Cr rfl) rfl fun H s57 => Av s57 (.here) rfl (Ah (Ch s57 ⟨_, rfl, rfl⟩ (Eb (.nl (Eb (.nl (G8 (.nl (.sc (.sc (.nl (.nl (.nl .nil))))))))))) (Ec ⟨(An ⟨_, _, rfl, rfl⟩), (Ec ⟨(An ⟨_, _, rfl, rfl⟩), (Ha ⟨(An ⟨_, _, rfl, rfl⟩), (Fi ⟨(An ⟨_, _, rfl, rfl⟩), ⟨(An ⟨_, _, rfl, rfl⟩), ⟨(An ⟨_, _, rfl, rfl⟩), trivial⟩⟩⟩)⟩)⟩)⟩)) ?_)))
 have e : Dx first B = (⟨0, false, 0, false, 0, ⟨#[]⟩, ⟨#[]⟩, ⟨#[]⟩, 0, false, 0, false, ⟨#[]⟩, ⟨#[]⟩, 0, false, false, ⟨#[]⟩, false, ⟨#[]⟩, 0, false, [], [], []⟩ : PacketV) := by
  clear s0 s2 s4 s5 s49 s57
  simp only [Cs] at h6 h15 h16 h22 h47
  unfold Dx Hk Fs Kk; first | (simp only [h6, h15, h16, h22, h47, h50, q48, if_true, if_false, or_true, or_false, false_or, true_or, zaa, reduceIte, and_true, and_false, true_and, false_and, Ay]; done) | (simp only [h6, h15, h16, h22, h47, h50, q48, if_true, if_false, or_true, or_false, false_or, true_or, zaa, reduceIte, and_true, and_false, true_and, false_and, Ay]; rfl) | (simp only [h6, h15, h16, h22, h47, h50, q48, if_true, if_false, or_true, or_false, false_or, true_or, zaa, reduceIte, and_true, and_false, true_and, false_and, Ay]; simp [Bj, h6, h15, h16, h22, h47, h50]; done) | (simp only [h6, h15, h16, h22, h47, h50, q48, if_true, if_false, or_true, or_false, false_or, true_or, zaa, reduceIte, and_true, and_false, true_and, false_and, Ay]; simp [Bj, h6, h15, h16, h22, h47, h50]; omega)
 ·rw [e]
  first | done | rfl
 have dh47 := of_decide_eq_false h47
 refine Ax h47 (Ab (o' := 0) rfl (Aq (c := si (first / 16)) s5 (.here) rfl (Bd (Dn (Aa ((decide ((first / 16) = 9))) (fun h58 => ?_) (fun h58 => ?_))))))
 have dh58 := of_decide_eq_true h58
 refine Au h58 ?_
 have e : Dx first B = K4 (first / 16) 0 (F8 B (B.size + 1) 0 []) (Db (first / 16) B (B.size + 1) 0 [] []) := by
  clear s0 s2 s4 s5
  simp only [Cs] at h6 h15 h16 h22 h47 h58
  unfold Dx Hk Fs Kk; first | (simp only [h6, h15, h16, h22, h47, h58, if_true, if_false, or_true, or_false, false_or, true_or, zaa, reduceIte, and_true, and_false, true_and, false_and, Ay]; done) | (simp only [h6, h15, h16, h22, h47, h58, if_true, if_false, or_true, or_false, false_or, true_or, zaa, reduceIte, and_true, and_false, true_and, false_and, Ay]; rfl) | (simp only [h6, h15, h16, h22, h47, h58, if_true, if_false, or_true, or_false, false_or, true_or, zaa, reduceIte, and_true, and_false, true_and, false_and, Ay]; simp [Bj, h6, h15, h16, h22, h47, h58]; done) | (simp only [h6, h15, h16, h22, h47, h58, if_true, if_false, or_true, or_false, false_or, true_or, zaa, reduceIte, and_true, and_false, true_and, false_and, Ay]; simp [Bj, h6, h15, h16, h22, h47, h58]; omega)
 rw [e]
 have s59 := s5.nl (ty := 57) ⟨_, _, rfl, rfl⟩
 exact Sl n hn (first / 16) 0 B i1 i3 hB 0 (by omega) (B.size + 1) _ 0 [] .nl _ (by omega) (by omega) (by omega) (by first | omega | (simp only [zat]; omega)) rfl (s59.sel (.cons (.here) (.cons C6 (.cons (.here) .nil))))
 have dh58 := of_decide_eq_false h58
 refine Ax h58 ?_
 have e : Dx first B = K4 (first / 16) 0 [] (Db (first / 16) B (B.size + 1) 0 [] []) := by
  clear s0 s2 s4 s5
  simp only [Cs] at h6 h15 h16 h22 h47 h58
  unfold Dx Hk Fs Kk; first | (simp only [h6, h15, h16, h22, h47, h58, if_true, if_false, or_true, or_false, false_or, true_or, zaa, reduceIte, and_true, and_false, true_and, false_and, Ay]; done) | (simp only [h6, h15, h16, h22, h47, h58, if_true, if_false, or_true, or_false, false_or, true_or, zaa, reduceIte, and_true, and_false, true_and, false_and, Ay]; rfl) | (simp only [h6, h15, h16, h22, h47, h58, if_true, if_false, or_true, or_false, false_or, true_or, zaa, reduceIte, and_true, and_false, true_and, false_and, Ay]; simp [Bj, h6, h15, h16, h22, h47, h58]; done) | (simp only [h6, h15, h16, h22, h47, h58, if_true, if_false, or_true, or_false, false_or, true_or, zaa, reduceIte, and_true, and_false, true_and, false_and, Ay]; simp [Bj, h6, h15, h16, h22, h47, h58]; omega)
 rw [e]
 have s60 := s5.nl (ty := 57) ⟨_, _, rfl, rfl⟩
 have s61 := s60.nl (ty := 56) ⟨_, _, rfl, rfl⟩
 have s62 := s61.nl (ty := 55) ⟨_, _, rfl, rfl⟩
 exact Nj n hn (first / 16) 0 B i1 i3 hB [] (B.size + 1) _ 0 [] [] .nl .nl .nl _ (by omega) (by omega) (by omega) (by first | omega | (simp only [zat]; omega)) rfl rfl rfl (s62.sel (.cons (.here) (.cons C6 (.cons (.here) (.cons C6 (.cons (.here) .nil))))))
 have dh15 := of_decide_eq_false h15
 refine Ac h15 (Ac h15 (Ac h15 (A6 h15 (Ax rfl (Ab (o' := 0) rfl (Aq (c := si (first / 16)) s5 (.here) rfl (Bd (Aa ((decide ((first / 16) = 3))) (fun h63 => ?_) (fun h63 => ?_)))))))))
 have dh63 := of_decide_eq_true h63
 refine Au h63 (Gj rfl (Eo (Ab (o' := 1) rfl (A8 s5 (.here) rfl rfl fun H s64 => Rj 2 rfl (by decide) (Gj rfl (Ab (o' := 2) rfl (A8 s64 (.here) rfl rfl fun H s65 => Gj rfl (Eo (Ab (o' := 3) rfl (A8 s65 (.here) rfl rfl fun H s66 => ?_))))))))))
 obtain ⟨vq67, yq67, oq67, q67⟩ : ∃ w y o, Ce B 0 = (w, y, o) := ⟨_, _, _, rfl⟩
 have bq67 := Gp q67
 refine Ek s66 rfl (.cons .ro (.cons .sc .nil)) (by have h := Kg (n + 1) (by omega) B 0 (by omega) (by omega); rw [q67] at h; exact h) rfl (Bk (Bk (Bk Eh))) ?_
 rintro _ _ H ⟨_, rfl, ⟨_, rfl, ⟨_, rfl, ⟨rfl, rfl⟩⟩⟩⟩ s68
 simp only [zak] at s68
 refine Bs (v := ss vq67) rfl (Bs (v := si yq67) rfl (Bs (v := sb oq67) rfl (C5 (Aa (oq67) (fun h69 => ?_) (fun h69 => ?_)))))
 refine Ax (nF h69) (Ab (o' := 5) rfl (A8 s68 (.here) rfl rfl fun H s70 => Ab (o' := 2) rfl (Aq (c := si (bits .and .i64 (first / 2) 3)) s70 (.here) rfl (Eo (Dn (Aa ((decide (0 < (bits .and .i64 (first / 2) 3)))) (fun h71 => ?_) (fun h71 => ?_)))))))
 have dh71 := of_decide_eq_true h71
 refine Au h71 ?_
 obtain ⟨wq72, yq72, oq72, q72⟩ : ∃ w y o, Br B yq67 = (w, y, o) := ⟨_, _, _, rfl⟩
 have bq72 := F1 q72
 refine Ek s70 rfl (.cons .ro (.cons .sc .nil)) (by have h := Om (n + 5) (by omega) B yq67 (by omega) (by omega); rw [q72] at h; exact h) rfl (Bk (Bk (Bk Eh))) ?_
 rintro _ _ H ⟨_, rfl, ⟨_, rfl, ⟨_, rfl, ⟨rfl, rfl⟩⟩⟩⟩ s73
 simp only [zak] at s73
 refine Bs (v := si wq72) rfl (Bs (v := si yq72) rfl (Bs (v := sb oq72) rfl (C5 (Aa (oq72) (fun h74 => ?_) (fun h74 => ?_)))))
 refine Ax (nF h74) (Ab (o' := 4) rfl (A8 s73 (.here) rfl rfl fun H s75 => Gl yq72 ((B.size : Nat) : Int) rfl rfl (by omega) (by omega) (by omega) ?_))
 have z76 := zau (a := B) (b := yq72.toNat) (e := ((B.size : Nat) : Int).toNat)
 refine Ip s75 (by omega) fun x77 H lx77 s78 => Ab (o' := 6) rfl (A8 s78 C6 lx77 rfl fun H s79 => Av s79 (.here) rfl (Cm (cs' := [si (first / 16), sb (decide (0 < (bits .and .i64 first 8))), si (bits .and .i64 (first / 2) 3), sb (decide (0 < (bits .and .i64 first 1))), si wq72, ss vq67, x77, sE, i0, bF, i0, bF, sE, .nl, i0, bF, bF, sE, bF, .nl, i0, bF, .nl, .nl, .nl]) s79 Do (Am (Ad rfl (Ad rfl (Ad rfl (Ad rfl (Ad rfl (Ad rfl (Ad lx77 rfl)))))))) rfl (Cr rfl) rfl fun H s80 => Av s80 (.here) rfl (Ah (Ch s80 ⟨_, rfl, rfl⟩ (Eb (.own Do (Eb (.nl (G8 (.nl (.sc (.sc (.nl (.nl (.nl .nil))))))))))) (Ec ⟨(Cg (Df (B.extract yq72.toNat ((B.size : Nat) : Int).toNat)) (by decide)), (Ec ⟨(An ⟨_, _, rfl, rfl⟩), (Ha ⟨(An ⟨_, _, rfl, rfl⟩), (Fi ⟨(An ⟨_, _, rfl, rfl⟩), ⟨(An ⟨_, _, rfl, rfl⟩), ⟨(An ⟨_, _, rfl, rfl⟩), trivial⟩⟩⟩)⟩)⟩)⟩)) ?_)))
 have e : Dx first B = (⟨(first / 16), (decide (0 < (bits .and .i64 first 8))), (bits .and .i64 (first / 2) 3), (decide (0 < (bits .and .i64 first 1))), wq72, vq67, (B.extract yq72.toNat ((B.size : Nat) : Int).toNat), ⟨#[]⟩, 0, false, 0, false, ⟨#[]⟩, ⟨#[]⟩, 0, false, false, ⟨#[]⟩, false, ⟨#[]⟩, 0, false, [], [], []⟩ : PacketV) := by
  clear s0 s2 s4 s5 s64 s65 s66 s68 s70 s73 s75 s78 s79 s80
  simp only [Cs] at h6 h15 h63 h71
  unfold Dx Hk Fs Kk; first | (simp only [h6, h15, h63, h71, h69, h74, q67, q72, if_true, if_false, or_true, or_false, false_or, true_or, zaa, reduceIte, and_true, and_false, true_and, false_and, Ay]; done) | (simp only [h6, h15, h63, h71, h69, h74, q67, q72, if_true, if_false, or_true, or_false, false_or, true_or, zaa, reduceIte, and_true, and_false, true_and, false_and, Ay]; rfl) | (simp only [h6, h15, h63, h71, h69, h74, q67, q72, if_true, if_false, or_true, or_false, false_or, true_or, zaa, reduceIte, and_true, and_false, true_and, false_and, Ay]; simp [Bj, h6, h15, h63, h71, h69, h74]; done) | (simp only [h6, h15, h63, h71, h69, h74, q67, q72, if_true, if_false, or_true, or_false, false_or, true_or, zaa, reduceIte, and_true, and_false, true_and, false_and, Ay]; simp [Bj, h6, h15, h63, h71, h69, h74]; omega)
 ·rw [e]
  first | done | rfl
 refine Au (nT h74) (Bh (cs := Ez) rfl (Cm (cs' := Ez) s73 C6 (Am rfl) rfl (Cr rfl) rfl fun H s81 => Av s81 (.here) rfl (Ah (Ch s81 ⟨_, rfl, rfl⟩ (Eb (.nl (Eb (.nl (G8 (.nl (.sc (.sc (.nl (.nl (.nl .nil))))))))))) (Ec ⟨(An ⟨_, _, rfl, rfl⟩), (Ec ⟨(An ⟨_, _, rfl, rfl⟩), (Ha ⟨(An ⟨_, _, rfl, rfl⟩), (Fi ⟨(An ⟨_, _, rfl, rfl⟩), ⟨(An ⟨_, _, rfl, rfl⟩), ⟨(An ⟨_, _, rfl, rfl⟩), trivial⟩⟩⟩)⟩)⟩)⟩)) ?_)))
 have e : Dx first B = (⟨0, false, 0, false, 0, ⟨#[]⟩, ⟨#[]⟩, ⟨#[]⟩, 0, false, 0, false, ⟨#[]⟩, ⟨#[]⟩, 0, false, false, ⟨#[]⟩, false, ⟨#[]⟩, 0, false, [], [], []⟩ : PacketV) := by
  clear s0 s2 s4 s5 s64 s65 s66 s68 s70 s73 s81
  simp only [Cs] at h6 h15 h63 h71
  unfold Dx Hk Fs Kk; first | (simp only [h6, h15, h63, h71, h69, h74, q67, q72, if_true, if_false, or_true, or_false, false_or, true_or, zaa, reduceIte, and_true, and_false, true_and, false_and, Ay]; done) | (simp only [h6, h15, h63, h71, h69, h74, q67, q72, if_true, if_false, or_true, or_false, false_or, true_or, zaa, reduceIte, and_true, and_false, true_and, false_and, Ay]; rfl) | (simp only [h6, h15, h63, h71, h69, h74, q67, q72, if_true, if_false, or_true, or_false, false_or, true_or, zaa, reduceIte, and_true, and_false, true_and, false_and, Ay]; simp [Bj, h6, h15, h63, h71, h69, h74]; done) | (simp only [h6, h15, h63, h71, h69, h74, q67, q72, if_true, if_false, or_true, or_false, false_or, true_or, zaa, reduceIte, and_true, and_false, true_and, false_and, Ay]; simp [Bj, h6, h15, h63, h71, h69, h74]; omega)
 ·rw [e]
  first | done | rfl
 have dh71 := of_decide_eq_false h71
 refine Ax h71 (Gl yq67 ((B.size : Nat) : Int) rfl rfl (by omega) (by omega) (by omega) ?_)
 have z82 := zau (a := B) (b := yq67.toNat) (e := ((B.size : Nat) : Int).toNat)
 refine Ip s70 (by omega) fun x83 H lx83 s84 => Ab (o' := 6) rfl (A8 s84 C6 lx83 rfl fun H s85 => Av s85 (.here) rfl (Cm (cs' := [si (first / 16), sb (decide (0 < (bits .and .i64 first 8))), si (bits .and .i64 (first / 2) 3), sb (decide (0 < (bits .and .i64 first 1))), i0, ss vq67, x83, sE, i0, bF, i0, bF, sE, .nl, i0, bF, bF, sE, bF, .nl, i0, bF, .nl, .nl, .nl]) s85 Do (Am (Ad rfl (Ad rfl (Ad rfl (Ad rfl (Ad rfl (Ad rfl (Ad lx83 rfl)))))))) rfl (Cr rfl) rfl fun H s86 => Av s86 (.here) rfl (Ah (Ch s86 ⟨_, rfl, rfl⟩ (Eb (.own Do (Eb (.nl (G8 (.nl (.sc (.sc (.nl (.nl (.nl .nil))))))))))) (Ec ⟨(Cg (Df (B.extract yq67.toNat ((B.size : Nat) : Int).toNat)) (by decide)), (Ec ⟨(An ⟨_, _, rfl, rfl⟩), (Ha ⟨(An ⟨_, _, rfl, rfl⟩), (Fi ⟨(An ⟨_, _, rfl, rfl⟩), ⟨(An ⟨_, _, rfl, rfl⟩), ⟨(An ⟨_, _, rfl, rfl⟩), trivial⟩⟩⟩)⟩)⟩)⟩)) ?_)))
 have e : Dx first B = (⟨(first / 16), (decide (0 < (bits .and .i64 first 8))), (bits .and .i64 (first / 2) 3), (decide (0 < (bits .and .i64 first 1))), 0, vq67, (B.extract yq67.toNat ((B.size : Nat) : Int).toNat), ⟨#[]⟩, 0, false, 0, false, ⟨#[]⟩, ⟨#[]⟩, 0, false, false, ⟨#[]⟩, false, ⟨#[]⟩, 0, false, [], [], []⟩ : PacketV) := by
  clear s0 s2 s4 s5 s64 s65 s66 s68 s70 s84 s85 s86
  simp only [Cs] at h6 h15 h63 h71
  unfold Dx Hk Fs Kk; first | (simp only [h6, h15, h63, h71, h69, q67, if_true, if_false, or_true, or_false, false_or, true_or, zaa, reduceIte, and_true, and_false, true_and, false_and, Ay]; done) | (simp only [h6, h15, h63, h71, h69, q67, if_true, if_false, or_true, or_false, false_or, true_or, zaa, reduceIte, and_true, and_false, true_and, false_and, Ay]; rfl) | (simp only [h6, h15, h63, h71, h69, q67, if_true, if_false, or_true, or_false, false_or, true_or, zaa, reduceIte, and_true, and_false, true_and, false_and, Ay]; simp [Bj, h6, h15, h63, h71, h69]; done) | (simp only [h6, h15, h63, h71, h69, q67, if_true, if_false, or_true, or_false, false_or, true_or, zaa, reduceIte, and_true, and_false, true_and, false_and, Ay]; simp [Bj, h6, h15, h63, h71, h69]; omega)
 ·rw [e]
  first | done | rfl
 refine Au (nT h69) (Bh (cs := Ez) rfl (Cm (cs' := Ez) s68 C6 (Am rfl) rfl (Cr rfl) rfl fun H s87 => Av s87 (.here) rfl (Ah (Ch s87 ⟨_, rfl, rfl⟩ (Eb (.nl (Eb (.nl (G8 (.nl (.sc (.sc (.nl (.nl (.nl .nil))))))))))) (Ec ⟨(An ⟨_, _, rfl, rfl⟩), (Ec ⟨(An ⟨_, _, rfl, rfl⟩), (Ha ⟨(An ⟨_, _, rfl, rfl⟩), (Fi ⟨(An ⟨_, _, rfl, rfl⟩), ⟨(An ⟨_, _, rfl, rfl⟩), ⟨(An ⟨_, _, rfl, rfl⟩), trivial⟩⟩⟩)⟩)⟩)⟩)) ?_)))
 have e : Dx first B = (⟨0, false, 0, false, 0, ⟨#[]⟩, ⟨#[]⟩, ⟨#[]⟩, 0, false, 0, false, ⟨#[]⟩, ⟨#[]⟩, 0, false, false, ⟨#[]⟩, false, ⟨#[]⟩, 0, false, [], [], []⟩ : PacketV) := by
  clear s0 s2 s4 s5 s64 s65 s66 s68 s87
  simp only [Cs] at h6 h15 h63
  unfold Dx Hk Fs Kk; first | (simp only [h6, h15, h63, h69, q67, if_true, if_false, or_true, or_false, false_or, true_or, zaa, reduceIte, and_true, and_false, true_and, false_and, Ay]; done) | (simp only [h6, h15, h63, h69, q67, if_true, if_false, or_true, or_false, false_or, true_or, zaa, reduceIte, and_true, and_false, true_and, false_and, Ay]; rfl) | (simp only [h6, h15, h63, h69, q67, if_true, if_false, or_true, or_false, false_or, true_or, zaa, reduceIte, and_true, and_false, true_and, false_and, Ay]; simp [Bj, h6, h15, h63, h69]; done) | (simp only [h6, h15, h63, h69, q67, if_true, if_false, or_true, or_false, false_or, true_or, zaa, reduceIte, and_true, and_false, true_and, false_and, Ay]; simp [Bj, h6, h15, h63, h69]; omega)
 ·rw [e]
  first | done | rfl
 have dh63 := of_decide_eq_false h63
 refine Ax h63 (Ab (o' := 0) rfl (Aq (c := si (first / 16)) s5 (.here) rfl (D4 (Dn (Aa ((decide ((first / 16) < 12))) (fun h88 => ?_) (fun h88 => ?_))))))
 have dh88 := of_decide_eq_true h88
 refine Au h88 ?_
 obtain ⟨wq89, yq89, oq89, q89⟩ : ∃ w y o, Br B 0 = (w, y, o) := ⟨_, _, _, rfl⟩
 have bq89 := F1 q89
 refine Ek s5 rfl (.cons .ro (.cons .sc .nil)) (by have h := Om (n + 5) (by omega) B 0 (by omega) (by omega); rw [q89] at h; exact h) rfl (Bk (Bk (Bk Eh))) ?_
 rintro _ _ H ⟨_, rfl, ⟨_, rfl, ⟨_, rfl, ⟨rfl, rfl⟩⟩⟩⟩ s90
 simp only [zak] at s90
 refine Bs (v := si wq89) rfl (Bs (v := si yq89) rfl (Bs (v := sb oq89) rfl (C5 (Aa (oq89) (fun h91 => ?_) (fun h91 => ?_)))))
 refine Ax (nF h91) (Ab (o' := 4) rfl (A8 s90 (.here) rfl rfl fun H s92 => Ab (o' := 0) rfl (Aq (c := si (first / 16)) s92 (.here) rfl (Bd (Dn (Aa ((decide ((first / 16) = 9))) (fun h93 => ?_) (fun h93 => ?_)))))))
 have dh93 := of_decide_eq_true h93
 refine Au h93 ?_
 have e : Dx first B = K4 (first / 16) wq89 (F8 B (B.size + 1) yq89 []) (Db (first / 16) B (B.size + 1) yq89 [] []) := by
  clear s0 s2 s4 s5 s90 s92
  simp only [Cs] at h6 h15 h63 h88 h93
  unfold Dx Hk Fs Kk; first | (simp only [h6, h15, h63, h88, h93, h91, q89, if_true, if_false, or_true, or_false, false_or, true_or, zaa, reduceIte, and_true, and_false, true_and, false_and, Ay]; done) | (simp only [h6, h15, h63, h88, h93, h91, q89, if_true, if_false, or_true, or_false, false_or, true_or, zaa, reduceIte, and_true, and_false, true_and, false_and, Ay]; rfl) | (simp only [h6, h15, h63, h88, h93, h91, q89, if_true, if_false, or_true, or_false, false_or, true_or, zaa, reduceIte, and_true, and_false, true_and, false_and, Ay]; simp [Bj, h6, h15, h63, h88, h93, h91]; done) | (simp only [h6, h15, h63, h88, h93, h91, q89, if_true, if_false, or_true, or_false, false_or, true_or, zaa, reduceIte, and_true, and_false, true_and, false_and, Ay]; simp [Bj, h6, h15, h63, h88, h93, h91]; omega)
 rw [e]
 have s94 := s92.nl (ty := 57) ⟨_, _, rfl, rfl⟩
 exact Sl n hn (first / 16) wq89 B i1 i3 hB yq89 (by omega) (B.size + 1) _ yq89 [] .nl _ (by omega) (by omega) (by omega) (by first | omega | (simp only [zat]; omega)) rfl (s94.sel (.cons (.here) (.cons C6 (.cons (.here) .nil))))
 have dh93 := of_decide_eq_false h93
 refine Ax h93 ?_
 have e : Dx first B = K4 (first / 16) wq89 [] (Db (first / 16) B (B.size + 1) yq89 [] []) := by
  clear s0 s2 s4 s5 s90 s92
  simp only [Cs] at h6 h15 h63 h88 h93
  unfold Dx Hk Fs Kk; first | (simp only [h6, h15, h63, h88, h93, h91, q89, if_true, if_false, or_true, or_false, false_or, true_or, zaa, reduceIte, and_true, and_false, true_and, false_and, Ay]; done) | (simp only [h6, h15, h63, h88, h93, h91, q89, if_true, if_false, or_true, or_false, false_or, true_or, zaa, reduceIte, and_true, and_false, true_and, false_and, Ay]; rfl) | (simp only [h6, h15, h63, h88, h93, h91, q89, if_true, if_false, or_true, or_false, false_or, true_or, zaa, reduceIte, and_true, and_false, true_and, false_and, Ay]; simp [Bj, h6, h15, h63, h88, h93, h91]; done) | (simp only [h6, h15, h63, h88, h93, h91, q89, if_true, if_false, or_true, or_false, false_or, true_or, zaa, reduceIte, and_true, and_false, true_and, false_and, Ay]; simp [Bj, h6, h15, h63, h88, h93, h91]; omega)
 rw [e]
 have s95 := s92.nl (ty := 57) ⟨_, _, rfl, rfl⟩
 have s96 := s95.nl (ty := 56) ⟨_, _, rfl, rfl⟩
 have s97 := s96.nl (ty := 55) ⟨_, _, rfl, rfl⟩
 exact Nj n hn (first / 16) wq89 B i1 i3 hB [] (B.size + 1) _ yq89 [] [] .nl .nl .nl _ (by omega) (by omega) (by omega) (by first | omega | (simp only [zat]; omega)) rfl rfl rfl (s97.sel (.cons (.here) (.cons C6 (.cons (.here) (.cons C6 (.cons (.here) .nil))))))
 refine Au (nT h91) (Bh (cs := Ez) rfl (Cm (cs' := Ez) s90 C6 (Am rfl) rfl (Cr rfl) rfl fun H s98 => Av s98 (.here) rfl (Ah (Ch s98 ⟨_, rfl, rfl⟩ (Eb (.nl (Eb (.nl (G8 (.nl (.sc (.sc (.nl (.nl (.nl .nil))))))))))) (Ec ⟨(An ⟨_, _, rfl, rfl⟩), (Ec ⟨(An ⟨_, _, rfl, rfl⟩), (Ha ⟨(An ⟨_, _, rfl, rfl⟩), (Fi ⟨(An ⟨_, _, rfl, rfl⟩), ⟨(An ⟨_, _, rfl, rfl⟩), ⟨(An ⟨_, _, rfl, rfl⟩), trivial⟩⟩⟩)⟩)⟩)⟩)) ?_)))
 have e : Dx first B = (⟨0, false, 0, false, 0, ⟨#[]⟩, ⟨#[]⟩, ⟨#[]⟩, 0, false, 0, false, ⟨#[]⟩, ⟨#[]⟩, 0, false, false, ⟨#[]⟩, false, ⟨#[]⟩, 0, false, [], [], []⟩ : PacketV) := by
  clear s0 s2 s4 s5 s90 s98
  simp only [Cs] at h6 h15 h63 h88
  unfold Dx Hk Fs Kk; first | (simp only [h6, h15, h63, h88, h91, q89, if_true, if_false, or_true, or_false, false_or, true_or, zaa, reduceIte, and_true, and_false, true_and, false_and, Ay]; done) | (simp only [h6, h15, h63, h88, h91, q89, if_true, if_false, or_true, or_false, false_or, true_or, zaa, reduceIte, and_true, and_false, true_and, false_and, Ay]; rfl) | (simp only [h6, h15, h63, h88, h91, q89, if_true, if_false, or_true, or_false, false_or, true_or, zaa, reduceIte, and_true, and_false, true_and, false_and, Ay]; simp [Bj, h6, h15, h63, h88, h91]; done) | (simp only [h6, h15, h63, h88, h91, q89, if_true, if_false, or_true, or_false, false_or, true_or, zaa, reduceIte, and_true, and_false, true_and, false_and, Ay]; simp [Bj, h6, h15, h63, h88, h91]; omega)
 ·rw [e]
  first | done | rfl
 have dh88 := of_decide_eq_false h88
 refine Ax h88 (Ab (o' := 0) rfl (Aq (c := si (first / 16)) s5 (.here) rfl (Bd (Dn (Aa ((decide ((first / 16) = 9))) (fun h99 => ?_) (fun h99 => ?_))))))
 have dh99 := of_decide_eq_true h99
 refine Au h99 ?_
 have e : Dx first B = K4 (first / 16) 0 (F8 B (B.size + 1) 0 []) (Db (first / 16) B (B.size + 1) 0 [] []) := by
  clear s0 s2 s4 s5
  simp only [Cs] at h6 h15 h63 h88 h99
  unfold Dx Hk Fs Kk; first | (simp only [h6, h15, h63, h88, h99, if_true, if_false, or_true, or_false, false_or, true_or, zaa, reduceIte, and_true, and_false, true_and, false_and, Ay]; done) | (simp only [h6, h15, h63, h88, h99, if_true, if_false, or_true, or_false, false_or, true_or, zaa, reduceIte, and_true, and_false, true_and, false_and, Ay]; rfl) | (simp only [h6, h15, h63, h88, h99, if_true, if_false, or_true, or_false, false_or, true_or, zaa, reduceIte, and_true, and_false, true_and, false_and, Ay]; simp [Bj, h6, h15, h63, h88, h99]; done) | (simp only [h6, h15, h63, h88, h99, if_true, if_false, or_true, or_false, false_or, true_or, zaa, reduceIte, and_true, and_false, true_and, false_and, Ay]; simp [Bj, h6, h15, h63, h88, h99]; omega)
 rw [e]
 have s100 := s5.nl (ty := 57) ⟨_, _, rfl, rfl⟩
 exact Sl n hn (first / 16) 0 B i1 i3 hB 0 (by omega) (B.size + 1) _ 0 [] .nl _ (by omega) (by omega) (by omega) (by first | omega | (simp only [zat]; omega)) rfl (s100.sel (.cons (.here) (.cons C6 (.cons (.here) .nil))))
 have dh99 := of_decide_eq_false h99
 refine Ax h99 ?_
 have e : Dx first B = K4 (first / 16) 0 [] (Db (first / 16) B (B.size + 1) 0 [] []) := by
  clear s0 s2 s4 s5
  simp only [Cs] at h6 h15 h63 h88 h99
  unfold Dx Hk Fs Kk; first | (simp only [h6, h15, h63, h88, h99, if_true, if_false, or_true, or_false, false_or, true_or, zaa, reduceIte, and_true, and_false, true_and, false_and, Ay]; done) | (simp only [h6, h15, h63, h88, h99, if_true, if_false, or_true, or_false, false_or, true_or, zaa, reduceIte, and_true, and_false, true_and, false_and, Ay]; rfl) | (simp only [h6, h15, h63, h88, h99, if_true, if_false, or_true, or_false, false_or, true_or, zaa, reduceIte, and_true, and_false, true_and, false_and, Ay]; simp [Bj, h6, h15, h63, h88, h99]; done) | (simp only [h6, h15, h63, h88, h99, if_true, if_false, or_true, or_false, false_or, true_or, zaa, reduceIte, and_true, and_false, true_and, false_and, Ay]; simp [Bj, h6, h15, h63, h88, h99]; omega)
 rw [e]
 have s101 := s5.nl (ty := 57) ⟨_, _, rfl, rfl⟩
 have s102 := s101.nl (ty := 56) ⟨_, _, rfl, rfl⟩
 have s103 := s102.nl (ty := 55) ⟨_, _, rfl, rfl⟩
 exact Nj n hn (first / 16) 0 B i1 i3 hB [] (B.size + 1) _ 0 [] [] .nl .nl .nl _ (by omega) (by omega) (by omega) (by first | omega | (simp only [zat]; omega)) rfl rfl rfl (s103.sel (.cons (.here) (.cons C6 (.cons (.here) (.cons C6 (.cons (.here) .nil))))))
end
section
open Go
def E6 (p : PacketV) (B : ByteArray) (e : Int) : PacketV × Int × Int :=
 if !Ag p || !((Fe p).toList == (B.extract (0 : Int).toNat e.toNat).toList) then (Bj 0, 0, 2) else (p, e, 0)
def E7 (rd : Int → ByteArray → PacketV) (B : ByteArray) (r : Int × Int × Int) : PacketV × Int × Int :=
 if !decide (r.2.2 = 0) then (Bj 0, 0, r.2.2)
 else if decide (340 < r.1) then (Bj 0, 0, 2)
 else if decide (((B.size : Nat) : Int) - r.2.1 < r.1) then (Bj 0, 0, 1)
 else E6 (rd (A7 B 0) (B.extract r.2.1.toNat (r.2.1 + r.1).toNat)) B (r.2.1 + r.1)
def E9 (rd : Int → ByteArray → PacketV) (B : ByteArray) : PacketV × Int × Int :=
 if decide (((B.size : Nat) : Int) = 0) then (Bj 0, 0, 1)
 else if !B8 (A7 B 0) then (Bj 0, 0, 2)
 else E7 rd B (De B 1)
theorem AdJ (n : Nat) (hn : 1048576 < n) (B : ByteArray) (hB : B.size ≤ 1048576) : Di E0 (n + 13) 60 33 [Ai B] = some (.tup [.agg (A0 (E9 D2 B).1), .sc (.int .i64 (E9 D2 B).2.1), .sc (.int .i64 (E9 D2 B).2.2)]) := by
 rw [Be, Ahq, f33]
 refine C7 (G := (· = some (.tup [.agg (A0 (E9 D2 B).1), .sc (.int .i64 (E9 D2 B).2.1), .sc (.int .i64 (E9 D2 B).2.2)]))) ?_
 try simp only [Fk, A9, Dz, A5, D8, Aw, Bg, Pr.gT, Pr.gF, Pr.hT, Pr.hF, Pr.kT, Pr.kF, Bv, B3, Bw, G4, C2, Dm, Hr]
 have s0 : Sep [] [] := C1
 refine Hw s0 fun i1 H s2 => C4 (Bd (Aa ((decide (((B.size : Nat) : Int) = 0))) (fun h3 => ?_) (fun h3 => ?_)))
 have dh3 := of_decide_eq_true h3
 refine Au h3 (Bh (cs := Ez) rfl (Cm (cs' := Ez) s2 (.here) (Am rfl) rfl (Cr rfl) rfl fun H s4 => Av s4 (.here) rfl (Ah (Cq s4 rfl (.agg ⟨_, rfl, rfl⟩ (Eb (.nl (Eb (.nl (G8 (.nl (.sc (.sc (.nl (.nl (.nl .nil))))))))))) (.sc (.sc .nil))) ⟨(K5 ⟨_, rfl, rfl⟩ (Ec ⟨(An ⟨_, _, rfl, rfl⟩), (Ec ⟨(An ⟨_, _, rfl, rfl⟩), (Ha ⟨(An ⟨_, _, rfl, rfl⟩), (Fi ⟨(An ⟨_, _, rfl, rfl⟩), ⟨(An ⟨_, _, rfl, rfl⟩), ⟨(An ⟨_, _, rfl, rfl⟩), trivial⟩⟩⟩)⟩)⟩)⟩)), (Fi trivial)⟩) ?_)))
 have e : E9 D2 B = ((Bj 0), 0, 1) := by
  unfold E9 E7 E6; simp only [h3, if_true, if_false, zaa, reduceIte, Ay]
 ·rw [e]
  first | done | rfl
 have dh3 := of_decide_eq_false h3
 refine Ax h3 ?_
 have w5 := Ed B 0
 refine Gk (by omega) (by omega) fun _ => Fc (c := su (A7 B 0)) rfl (Jz (by omega) (by omega) (Ar (v := (.bool (B8 (A7 B 0)))) s2 rfl (.cons .sc .nil) (Zw (n + 10) (by omega) (A7 B 0) (by omega)) (C5 (Aa ((B8 (A7 B 0))) (fun h6 => ?_) (fun h6 => ?_)))))
 refine Ax (nF h6) ?_
 obtain ⟨nq7, yq7, cq7, q7⟩ : ∃ w y o, De B 1 = (w, y, o) := ⟨_, _, _, rfl⟩
 have bq7 := Ph (B := B) (a := 1)
 rw [q7] at bq7
 dsimp only at bq7
 refine Ek s2 rfl (.cons .ro (.cons .sc .nil)) (by have h := AfF (n + 10) (by omega) B 1 (by omega) (by omega); rw [q7] at h; exact h) rfl (Bk (Bk (Bk Eh))) ?_
 rintro _ _ H ⟨_, rfl, ⟨_, rfl, ⟨_, rfl, ⟨rfl, rfl⟩⟩⟩⟩ s8
 simp only [zak] at s8
 refine Bs (v := si nq7) rfl (Bs (v := si yq7) rfl (Bs (v := si cq7) rfl (Lh (Aa ((decide (cq7 = 0))) (fun h9 => ?_) (fun h9 => ?_)))))
 have dh9 := of_decide_eq_true h9
 replace bq7 := bq7 (of_decide_eq_true h9)
 refine Ax (nF h9) (Eo (Aa ((decide (340 < nq7))) (fun h10 => ?_) (fun h10 => ?_)))
 have dh10 := of_decide_eq_true h10
 refine Au h10 (Bh (cs := Ez) rfl (Cm (cs' := Ez) s8 (.here) (Am rfl) rfl (Cr rfl) rfl fun H s11 => Av s11 (.here) rfl (Ah (Cq s11 rfl (.agg ⟨_, rfl, rfl⟩ (Eb (.nl (Eb (.nl (G8 (.nl (.sc (.sc (.nl (.nl (.nl .nil))))))))))) (.sc (.sc .nil))) ⟨(K5 ⟨_, rfl, rfl⟩ (Ec ⟨(An ⟨_, _, rfl, rfl⟩), (Ec ⟨(An ⟨_, _, rfl, rfl⟩), (Ha ⟨(An ⟨_, _, rfl, rfl⟩), (Fi ⟨(An ⟨_, _, rfl, rfl⟩), ⟨(An ⟨_, _, rfl, rfl⟩), ⟨(An ⟨_, _, rfl, rfl⟩), trivial⟩⟩⟩)⟩)⟩)⟩)), (Fi trivial)⟩) ?_)))
 have e : E9 D2 B = ((Bj 0), 0, 2) := by
  unfold E9 E7 E6; simp only [h3, h6, h9, h10, q7, if_true, if_false, zaa, reduceIte, Ay]
 ·rw [e]
  first | done | rfl
 have dh10 := of_decide_eq_false h10
 refine Ax h10 (C4 (Nt (by omega) (by omega) (Eo (Aa ((decide ((((B.size : Nat) : Int) - yq7) < nq7))) (fun h12 => ?_) (fun h12 => ?_)))))
 have dh12 := of_decide_eq_true h12
 refine Au h12 (Bh (cs := Ez) rfl (Cm (cs' := Ez) s8 (.here) (Am rfl) rfl (Cr rfl) rfl fun H s13 => Av s13 (.here) rfl (Ah (Cq s13 rfl (.agg ⟨_, rfl, rfl⟩ (Eb (.nl (Eb (.nl (G8 (.nl (.sc (.sc (.nl (.nl (.nl .nil))))))))))) (.sc (.sc .nil))) ⟨(K5 ⟨_, rfl, rfl⟩ (Ec ⟨(An ⟨_, _, rfl, rfl⟩), (Ec ⟨(An ⟨_, _, rfl, rfl⟩), (Ha ⟨(An ⟨_, _, rfl, rfl⟩), (Fi ⟨(An ⟨_, _, rfl, rfl⟩), ⟨(An ⟨_, _, rfl, rfl⟩), ⟨(An ⟨_, _, rfl, rfl⟩), trivial⟩⟩⟩)⟩)⟩)⟩)), (Fi trivial)⟩) ?_)))
 have e : E9 D2 B = ((Bj 0), 0, 1) := by
  unfold E9 E7 E6; simp only [h3, h6, h9, h10, h12, q7, if_true, if_false, zaa, reduceIte, Ay]
 ·rw [e]
  first | done | rfl
 have dh12 := of_decide_eq_false h12
 refine Ax h12 ?_
 have w14 := Ed B 0
 refine Gk (by omega) (by omega) fun _ => Fc (c := su (A7 B 0)) rfl (Jz (by omega) (by omega) (Ca (by omega) (by omega) (Gl yq7 (yq7 + nq7) rfl rfl (by omega) (by omega) (by omega) ?_)))
 have z15 := zau (a := B) (b := yq7.toNat) (e := (yq7 + nq7).toNat)
 refine Dn (Gd.bothE ?_ ?_)
 have hR : (B.extract yq7.toNat (yq7 + nq7).toNat).size ≤ 340 := by rw [zau]; omega
 have hbd := AgP (A7 B 0) (B.extract yq7.toNat (yq7 + nq7).toNat) hR
 have hyp := hbd.hyp (by decide)
 refine Pw s8 rfl (.cons .sc (.cons .ro .nil)) (AgT (n + 1) (by omega) (A7 B 0) (B.extract yq7.toNat (yq7 + nq7).toNat) (by omega) (by omega)) ⟨_, rfl, rfl⟩ (Jc _) ?_
 rintro _ _ H ⟨x16, x17, x18, x19, x20, x21, lx16, lx17, lx18, lx19, lx20, lx21, rfl, rfl⟩ s22
 simp only [zak, za0] at s22
 refine Hw s22 fun i23 H s24 => Cm (cs' := [si ((D2 (A7 B 0) (B.extract yq7.toNat (yq7 + nq7).toNat)).fType), .sc (.bool (D2 (A7 B 0) (B.extract yq7.toNat (yq7 + nq7).toNat)).fDup), si ((D2 (A7 B 0) (B.extract yq7.toNat (yq7 + nq7).toNat)).fQos), .sc (.bool (D2 (A7 B 0) (B.extract yq7.toNat (yq7 + nq7).toNat)).fRetain), si ((D2 (A7 B 0) (B.extract yq7.toNat (yq7 + nq7).toNat)).fId), ss ((D2 (A7 B 0) (B.extract yq7.toNat (yq7 + nq7).toNat)).fTopic), x16, ss ((D2 (A7 B 0) (B.extract yq7.toNat (yq7 + nq7).toNat)).fClient), si ((D2 (A7 B 0) (B.extract yq7.toNat (yq7 + nq7).toNat)).fLevel), .sc (.bool (D2 (A7 B 0) (B.extract yq7.toNat (yq7 + nq7).toNat)).fClean), si ((D2 (A7 B 0) (B.extract yq7.toNat (yq7 + nq7).toNat)).fKeep), .sc (.bool (D2 (A7 B 0) (B.extract yq7.toNat (yq7 + nq7).toNat)).fHasWill), ss ((D2 (A7 B 0) (B.extract yq7.toNat (yq7 + nq7).toNat)).fWTopic), x17, si ((D2 (A7 B 0) (B.extract yq7.toNat (yq7 + nq7).toNat)).fWQos), .sc (.bool (D2 (A7 B 0) (B.extract yq7.toNat (yq7 + nq7).toNat)).fWRetain), .sc (.bool (D2 (A7 B 0) (B.extract yq7.toNat (yq7 + nq7).toNat)).fHasUser), ss ((D2 (A7 B 0) (B.extract yq7.toNat (yq7 + nq7).toNat)).fUser), .sc (.bool (D2 (A7 B 0) (B.extract yq7.toNat (yq7 + nq7).toNat)).fHasPass), x18, si ((D2 (A7 B 0) (B.extract yq7.toNat (yq7 + nq7).toNat)).fCode), .sc (.bool (D2 (A7 B 0) (B.extract yq7.toNat (yq7 + nq7).toNat)).fPresent), x19, x20, x21]) s24 (.here) (Am (Ad rfl (Ad rfl (Ad rfl (Ad rfl (Ad rfl (Ad rfl (Ad lx16 (Ad rfl (Ad rfl (Ad rfl (Ad rfl (Ad rfl (Ad rfl (Ad lx17 (Ad rfl (Ad rfl (Ad rfl (Ad rfl (Ad rfl (Ad lx18 (Ad rfl (Ad rfl (Ad lx19 (Ad lx20 (Ad lx21 rfl)))))))))))))))))))))))))) rfl (Cr rfl) rfl fun H s25 => Av s25 (.here) rfl ?_
 refine Ar (v := (.bool (Ag (D2 (A7 B 0) (B.extract yq7.toNat (yq7 + nq7).toNat))))) s25 rfl (.agg (Ge (.cons (.own (by decide) Ww) (Ge (.cons (.own (by decide) Uk) (K7 (.cons (.own (by decide) Lt) (H5 (.cons (.own (by decide) Ls) (.cons (.own (by decide) Do) (.cons (.own (by decide) C6) .nil)))))))))) .nil) (Qt (n + 2) (by omega) (D2 (A7 B 0) (B.extract yq7.toNat (yq7 + nq7).toNat)) hyp) (C5 (Aa ((Ag (D2 (A7 B 0) (B.extract yq7.toNat (yq7 + nq7).toNat)))) (fun h26 => ?_) (fun h26 => ?_)))
 refine Af (nF h26) (Av s25 (.here) rfl (Af (nF h26) (Af (nF h26) (Af (nF h26) (Af (nF h26) (Ca (by omega) (by omega) (Af (nF h26) (Gl 0 (yq7 + nq7) rfl rfl (by omega) (by omega) (by omega) ?_))))))))
 have z27 := zau (a := B) (b := (0 : Int).toNat) (e := (yq7 + nq7).toNat)
 refine Af (nF h26) (Cl s25 rfl (.agg (Ge (.cons (.own (by decide) Ww) (Ge (.cons (.own (by decide) Uk) (K7 (.cons (.own (by decide) Lt) (H5 (.cons (.own (by decide) Ls) (.cons (.own (by decide) Do) (.cons (.own (by decide) C6) .nil)))))))))) .nil) (Xu (n + 1) (by omega) (D2 (A7 B 0) (B.extract yq7.toNat (yq7 + nq7).toNat)) hyp (zaB hbd.b1 (by decide)) (zaB hbd.b2 (by decide)) (zaB hbd.b3 (by decide))) (Df (Fe (D2 (A7 B 0) (B.extract yq7.toNat (yq7 + nq7).toNat)))) fun x28 H lx28 s29 => Af (nF h26) (Ar (v := (.bool ((Fe (D2 (A7 B 0) (B.extract yq7.toNat (yq7 + nq7).toNat))).toList == (B.extract (0 : Int).toNat (yq7 + nq7).toNat).toList))) s29 rfl (.cons (.own (by decide) (.here)) (.cons .ro .nil)) (Jo (n + 11) _ (Fe (D2 (A7 B 0) (B.extract yq7.toNat (yq7 + nq7).toNat))) (B.extract (0 : Int).toNat (yq7 + nq7).toNat)) (Af (nF h26) (C5 (A6 (nF h26) (Aa (((Fe (D2 (A7 B 0) (B.extract yq7.toNat (yq7 + nq7).toNat))).toList == (B.extract (0 : Int).toNat (yq7 + nq7).toNat).toList)) (fun h30 => ?_) (fun h30 => ?_)))))))
 refine Ax (nF h30) (Av s29 C6 rfl (Ca (by omega) (by omega) (Cm (cs' := [si ((D2 (A7 B 0) (B.extract yq7.toNat (yq7 + nq7).toNat)).fType), .sc (.bool (D2 (A7 B 0) (B.extract yq7.toNat (yq7 + nq7).toNat)).fDup), si ((D2 (A7 B 0) (B.extract yq7.toNat (yq7 + nq7).toNat)).fQos), .sc (.bool (D2 (A7 B 0) (B.extract yq7.toNat (yq7 + nq7).toNat)).fRetain), si ((D2 (A7 B 0) (B.extract yq7.toNat (yq7 + nq7).toNat)).fId), ss ((D2 (A7 B 0) (B.extract yq7.toNat (yq7 + nq7).toNat)).fTopic), x16, ss ((D2 (A7 B 0) (B.extract yq7.toNat (yq7 + nq7).toNat)).fClient), si ((D2 (A7 B 0) (B.extract yq7.toNat (yq7 + nq7).toNat)).fLevel), .sc (.bool (D2 (A7 B 0) (B.extract yq7.toNat (yq7 + nq7).toNat)).fClean), si ((D2 (A7 B 0) (B.extract yq7.toNat (yq7 + nq7).toNat)).fKeep), .sc (.bool (D2 (A7 B 0) (B.extract yq7.toNat (yq7 + nq7).toNat)).fHasWill), ss ((D2 (A7 B 0) (B.extract yq7.toNat (yq7 + nq7).toNat)).fWTopic), x17, si ((D2 (A7 B 0) (B.extract yq7.toNat (yq7 + nq7).toNat)).fWQos), .sc (.bool (D2 (A7 B 0) (B.extract yq7.toNat (yq7 + nq7).toNat)).fWRetain), .sc (.bool (D2 (A7 B 0) (B.extract yq7.toNat (yq7 + nq7).toNat)).fHasUser), ss ((D2 (A7 B 0) (B.extract yq7.toNat (yq7 + nq7).toNat)).fUser), .sc (.bool (D2 (A7 B 0) (B.extract yq7.toNat (yq7 + nq7).toNat)).fHasPass), x18, si ((D2 (A7 B 0) (B.extract yq7.toNat (yq7 + nq7).toNat)).fCode), .sc (.bool (D2 (A7 B 0) (B.extract yq7.toNat (yq7 + nq7).toNat)).fPresent), x19, x20, x21]) s29 zP8 (Am (Ad rfl (Ad rfl (Ad rfl (Ad rfl (Ad rfl (Ad rfl (Ad lx16 (Ad rfl (Ad rfl (Ad rfl (Ad rfl (Ad rfl (Ad rfl (Ad lx17 (Ad rfl (Ad rfl (Ad rfl (Ad rfl (Ad rfl (Ad lx18 (Ad rfl (Ad rfl (Ad lx19 (Ad lx20 (Ad lx21 rfl)))))))))))))))))))))))))) rfl (Cr rfl) rfl fun H s31 => Av s31 (.here) rfl ?_)))
 refine Ah (Cq s31 rfl (.agg ⟨_, rfl, rfl⟩ (Eb (.own zP8 (Eb (.own zP7 (G8 (.own Ww (.sc (.sc (.own Uk (.own Lt (.own Ls .nil))))))))))) (.sc (.sc .nil))) ⟨(K5 ⟨_, rfl, rfl⟩ (Ec ⟨(Cg (Df ((D2 (A7 B 0) (B.extract yq7.toNat (yq7 + nq7).toNat)).fBody)) (by decide)), (Ec ⟨(Cg (Df ((D2 (A7 B 0) (B.extract yq7.toNat (yq7 + nq7).toNat)).fWBody)) (by decide)), (Ha ⟨(Cg (Df ((D2 (A7 B 0) (B.extract yq7.toNat (yq7 + nq7).toNat)).fPass)) (by decide)), (Fi ⟨(Cg (Kf ((D2 (A7 B 0) (B.extract yq7.toNat (yq7 + nq7).toNat)).fWants)) (by decide)), ⟨(Cg (Tj ((D2 (A7 B 0) (B.extract yq7.toNat (yq7 + nq7).toNat)).fNames)) (by decide)), ⟨(Cg (Wf ((D2 (A7 B 0) (B.extract yq7.toNat (yq7 + nq7).toNat)).fCodes)) (by decide)), trivial⟩⟩⟩)⟩)⟩)⟩)), (Fi trivial)⟩) ?_
 have e : E9 D2 B = ((D2 (A7 B 0) (B.extract yq7.toNat (yq7 + nq7).toNat)), (yq7 + nq7), 0) := by
  unfold E9 E7 E6; simp only [h3, h6, h9, h10, h12, h26, h30, q7, if_true, if_false, zaa, reduceIte, Ay]
 ·rw [e]
  first | done | rfl
 refine Au (nT h30) (Bh (cs := Ez) rfl (Cm (cs' := Ez) s29 zP8 (Am rfl) rfl (Cr rfl) rfl fun H s32 => Av s32 (.here) rfl (Ah (Cq s32 rfl (.agg ⟨_, rfl, rfl⟩ (Eb (.nl (Eb (.nl (G8 (.nl (.sc (.sc (.nl (.nl (.nl .nil))))))))))) (.sc (.sc .nil))) ⟨(K5 ⟨_, rfl, rfl⟩ (Ec ⟨(An ⟨_, _, rfl, rfl⟩), (Ec ⟨(An ⟨_, _, rfl, rfl⟩), (Ha ⟨(An ⟨_, _, rfl, rfl⟩), (Fi ⟨(An ⟨_, _, rfl, rfl⟩), ⟨(An ⟨_, _, rfl, rfl⟩), ⟨(An ⟨_, _, rfl, rfl⟩), trivial⟩⟩⟩)⟩)⟩)⟩)), (Fi trivial)⟩) ?_)))
 have e : E9 D2 B = ((Bj 0), 0, 2) := by
  unfold E9 E7 E6; simp only [h3, h6, h9, h10, h12, h26, h30, q7, if_true, if_false, zaa, reduceIte, Ay]
 ·rw [e]
  first | done | rfl
 refine Ac (nT h26) (Ac (nT h26) (Ac (nT h26) (Ac (nT h26) (Ac (nT h26) (Ac (nT h26) (Ac (nT h26) (Ac (nT h26) (Ac (nT h26) (B4 (nT h26) (Au rfl (Bh (cs := Ez) rfl (Cm (cs' := Ez) s25 zP7 (Am rfl) rfl (Cr rfl) rfl fun H s33 => Av s33 (.here) rfl (Ah (Cq s33 rfl (.agg ⟨_, rfl, rfl⟩ (Eb (.nl (Eb (.nl (G8 (.nl (.sc (.sc (.nl (.nl (.nl .nil))))))))))) (.sc (.sc .nil))) ⟨(K5 ⟨_, rfl, rfl⟩ (Ec ⟨(An ⟨_, _, rfl, rfl⟩), (Ec ⟨(An ⟨_, _, rfl, rfl⟩), (Ha ⟨(An ⟨_, _, rfl, rfl⟩), (Fi ⟨(An ⟨_, _, rfl, rfl⟩), ⟨(An ⟨_, _, rfl, rfl⟩), ⟨(An ⟨_, _, rfl, rfl⟩), trivial⟩⟩⟩)⟩)⟩)⟩)), (Fi trivial)⟩) ?_)))))))))))))
 have e : E9 D2 B = ((Bj 0), 0, 2) := by
  unfold E9 E7 E6; simp only [h3, h6, h9, h10, h12, h26, q7, if_true, if_false, zaa, reduceIte, Ay]
 ·rw [e]
  first | done | rfl
 refine Hw s8 fun i34 H s35 => ?_
 have hR : (B.extract yq7.toNat (yq7 + nq7).toNat).size ≤ 340 := by rw [zau]; omega
 have hbd := AgP (A7 B 0) (B.extract yq7.toNat (yq7 + nq7).toNat) hR
 have hyp := hbd.hyp (by decide)
 refine Pw s35 rfl (.cons .sc (.cons .ro .nil)) (AgT (n + 1) (by omega) (A7 B 0) (B.extract yq7.toNat (yq7 + nq7).toNat) (by omega) (by omega)) ⟨_, rfl, rfl⟩ (Jc _) ?_
 rintro _ _ H ⟨x36, x37, x38, x39, x40, x41, lx36, lx37, lx38, lx39, lx40, lx41, rfl, rfl⟩ s42
 simp only [zak, za0] at s42
 refine Cm (cs' := [si ((D2 (A7 B 0) (B.extract yq7.toNat (yq7 + nq7).toNat)).fType), .sc (.bool (D2 (A7 B 0) (B.extract yq7.toNat (yq7 + nq7).toNat)).fDup), si ((D2 (A7 B 0) (B.extract yq7.toNat (yq7 + nq7).toNat)).fQos), .sc (.bool (D2 (A7 B 0) (B.extract yq7.toNat (yq7 + nq7).toNat)).fRetain), si ((D2 (A7 B 0) (B.extract yq7.toNat (yq7 + nq7).toNat)).fId), ss ((D2 (A7 B 0) (B.extract yq7.toNat (yq7 + nq7).toNat)).fTopic), x36, ss ((D2 (A7 B 0) (B.extract yq7.toNat (yq7 + nq7).toNat)).fClient), si ((D2 (A7 B 0) (B.extract yq7.toNat (yq7 + nq7).toNat)).fLevel), .sc (.bool (D2 (A7 B 0) (B.extract yq7.toNat (yq7 + nq7).toNat)).fClean), si ((D2 (A7 B 0) (B.extract yq7.toNat (yq7 + nq7).toNat)).fKeep), .sc (.bool (D2 (A7 B 0) (B.extract yq7.toNat (yq7 + nq7).toNat)).fHasWill), ss ((D2 (A7 B 0) (B.extract yq7.toNat (yq7 + nq7).toNat)).fWTopic), x37, si ((D2 (A7 B 0) (B.extract yq7.toNat (yq7 + nq7).toNat)).fWQos), .sc (.bool (D2 (A7 B 0) (B.extract yq7.toNat (yq7 + nq7).toNat)).fWRetain), .sc (.bool (D2 (A7 B 0) (B.extract yq7.toNat (yq7 + nq7).toNat)).fHasUser), ss ((D2 (A7 B 0) (B.extract yq7.toNat (yq7 + nq7).toNat)).fUser), .sc (.bool (D2 (A7 B 0) (B.extract yq7.toNat (yq7 + nq7).toNat)).fHasPass), x38, si ((D2 (A7 B 0) (B.extract yq7.toNat (yq7 + nq7).toNat)).fCode), .sc (.bool (D2 (A7 B 0) (B.extract yq7.toNat (yq7 + nq7).toNat)).fPresent), x39, x40, x41]) s42 Ww (Am (Ad rfl (Ad rfl (Ad rfl (Ad rfl (Ad rfl (Ad rfl (Ad lx36 (Ad rfl (Ad rfl (Ad rfl (Ad rfl (Ad rfl (Ad rfl (Ad lx37 (Ad rfl (Ad rfl (Ad rfl (Ad rfl (Ad rfl (Ad lx38 (Ad rfl (Ad rfl (Ad lx39 (Ad lx40 (Ad lx41 rfl)))))))))))))))))))))))))) rfl (Cr rfl) rfl fun H s43 => Av s43 (.here) rfl ?_
 refine Ar (v := (.bool (Ag (D2 (A7 B 0) (B.extract yq7.toNat (yq7 + nq7).toNat))))) s43 rfl (.agg (Ge (.cons (.own (by decide) Ww) (Ge (.cons (.own (by decide) Uk) (K7 (.cons (.own (by decide) Lt) (H5 (.cons (.own (by decide) Ls) (.cons (.own (by decide) Do) (.cons (.own (by decide) C6) .nil)))))))))) .nil) (Qt (n + 2) (by omega) (D2 (A7 B 0) (B.extract yq7.toNat (yq7 + nq7).toNat)) hyp) (C5 (Aa ((Ag (D2 (A7 B 0) (B.extract yq7.toNat (yq7 + nq7).toNat)))) (fun h44 => ?_) (fun h44 => ?_)))
 refine Af (nF h44) (Av s43 (.here) rfl (Af (nF h44) (Af (nF h44) (Af (nF h44) (Af (nF h44) (Ca (by omega) (by omega) (Af (nF h44) (Gl 0 (yq7 + nq7) rfl rfl (by omega) (by omega) (by omega) ?_))))))))
 have z45 := zau (a := B) (b := (0 : Int).toNat) (e := (yq7 + nq7).toNat)
 refine Af (nF h44) (Cl s43 rfl (.agg (Ge (.cons (.own (by decide) Ww) (Ge (.cons (.own (by decide) Uk) (K7 (.cons (.own (by decide) Lt) (H5 (.cons (.own (by decide) Ls) (.cons (.own (by decide) Do) (.cons (.own (by decide) C6) .nil)))))))))) .nil) (Xu (n + 1) (by omega) (D2 (A7 B 0) (B.extract yq7.toNat (yq7 + nq7).toNat)) hyp (zaB hbd.b1 (by decide)) (zaB hbd.b2 (by decide)) (zaB hbd.b3 (by decide))) (Df (Fe (D2 (A7 B 0) (B.extract yq7.toNat (yq7 + nq7).toNat)))) fun x46 H lx46 s47 => Af (nF h44) (Ar (v := (.bool ((Fe (D2 (A7 B 0) (B.extract yq7.toNat (yq7 + nq7).toNat))).toList == (B.extract (0 : Int).toNat (yq7 + nq7).toNat).toList))) s47 rfl (.cons (.own (by decide) (.here)) (.cons .ro .nil)) (Jo (n + 11) _ (Fe (D2 (A7 B 0) (B.extract yq7.toNat (yq7 + nq7).toNat))) (B.extract (0 : Int).toNat (yq7 + nq7).toNat)) (Af (nF h44) (C5 (A6 (nF h44) (Aa (((Fe (D2 (A7 B 0) (B.extract yq7.toNat (yq7 + nq7).toNat))).toList == (B.extract (0 : Int).toNat (yq7 + nq7).toNat).toList)) (fun h48 => ?_) (fun h48 => ?_)))))))
 refine Ax (nF h48) (Av s47 C6 rfl (Ca (by omega) (by omega) (Cm (cs' := [si ((D2 (A7 B 0) (B.extract yq7.toNat (yq7 + nq7).toNat)).fType), .sc (.bool (D2 (A7 B 0) (B.extract yq7.toNat (yq7 + nq7).toNat)).fDup), si ((D2 (A7 B 0) (B.extract yq7.toNat (yq7 + nq7).toNat)).fQos), .sc (.bool (D2 (A7 B 0) (B.extract yq7.toNat (yq7 + nq7).toNat)).fRetain), si ((D2 (A7 B 0) (B.extract yq7.toNat (yq7 + nq7).toNat)).fId), ss ((D2 (A7 B 0) (B.extract yq7.toNat (yq7 + nq7).toNat)).fTopic), x36, ss ((D2 (A7 B 0) (B.extract yq7.toNat (yq7 + nq7).toNat)).fClient), si ((D2 (A7 B 0) (B.extract yq7.toNat (yq7 + nq7).toNat)).fLevel), .sc (.bool (D2 (A7 B 0) (B.extract yq7.toNat (yq7 + nq7).toNat)).fClean), si ((D2 (A7 B 0) (B.extract yq7.toNat (yq7 + nq7).toNat)).fKeep), .sc (.bool (D2 (A7 B 0) (B.extract yq7.toNat (yq7 + nq7).toNat)).fHasWill), ss ((D2 (A7 B 0) (B.extract yq7.toNat (yq7 + nq7).toNat)).fWTopic), x37, si ((D2 (A7 B 0) (B.extract yq7.toNat (yq7 + nq7).toNat)).fWQos), .sc (.bool (D2 (A7 B 0) (B.extract yq7.toNat (yq7 + nq7).toNat)).fWRetain), .sc (.bool (D2 (A7 B 0) (B.extract yq7.toNat (yq7 + nq7).toNat)).fHasUser), ss ((D2 (A7 B 0) (B.extract yq7.toNat (yq7 + nq7).toNat)).fUser), .sc (.bool (D2 (A7 B 0) (B.extract yq7.toNat (yq7 + nq7).toNat)).fHasPass), x38, si ((D2 (A7 B 0) (B.extract yq7.toNat (yq7 + nq7).toNat)).fCode), .sc (.bool (D2 (A7 B 0) (B.extract yq7.toNat (yq7 + nq7).toNat)).fPresent), x39, x40, x41]) s47 zP8 (Am (Ad rfl (Ad rfl (Ad rfl (Ad rfl (Ad rfl (Ad rfl (Ad lx36 (Ad rfl (Ad rfl (Ad rfl (Ad rfl (Ad rfl (Ad rfl (Ad lx37 (Ad rfl (Ad rfl (Ad rfl (Ad rfl (Ad rfl (Ad lx38 (Ad rfl (Ad rfl (Ad lx39 (Ad lx40 (Ad lx41 rfl)))))))))))))))))))))))))) rfl (Cr rfl) rfl fun H s49 => Av s49 (.here) rfl ?_)))
 refine Ah (Cq s49 rfl (.agg ⟨_, rfl, rfl⟩ (Eb (.own zP8 (Eb (.own zP7 (G8 (.own Ww (.sc (.sc (.own Uk (.own Lt (.own Ls .nil))))))))))) (.sc (.sc .nil))) ⟨(K5 ⟨_, rfl, rfl⟩ (Ec ⟨(Cg (Df ((D2 (A7 B 0) (B.extract yq7.toNat (yq7 + nq7).toNat)).fBody)) (by decide)), (Ec ⟨(Cg (Df ((D2 (A7 B 0) (B.extract yq7.toNat (yq7 + nq7).toNat)).fWBody)) (by decide)), (Ha ⟨(Cg (Df ((D2 (A7 B 0) (B.extract yq7.toNat (yq7 + nq7).toNat)).fPass)) (by decide)), (Fi ⟨(Cg (Kf ((D2 (A7 B 0) (B.extract yq7.toNat (yq7 + nq7).toNat)).fWants)) (by decide)), ⟨(Cg (Tj ((D2 (A7 B 0) (B.extract yq7.toNat (yq7 + nq7).toNat)).fNames)) (by decide)), ⟨(Cg (Wf ((D2 (A7 B 0) (B.extract yq7.toNat (yq7 + nq7).toNat)).fCodes)) (by decide)), trivial⟩⟩⟩)⟩)⟩)⟩)), (Fi trivial)⟩) ?_
 have e : E9 D2 B = ((D2 (A7 B 0) (B.extract yq7.toNat (yq7 + nq7).toNat)), (yq7 + nq7), 0) := by
  unfold E9 E7 E6; simp only [h3, h6, h9, h10, h12, h44, h48, q7, if_true, if_false, zaa, reduceIte, Ay]
 ·rw [e]
  first | done | rfl
 refine Au (nT h48) (Bh (cs := Ez) rfl (Cm (cs' := Ez) s47 zP8 (Am rfl) rfl (Cr rfl) rfl fun H s50 => Av s50 (.here) rfl (Ah (Cq s50 rfl (.agg ⟨_, rfl, rfl⟩ (Eb (.nl (Eb (.nl (G8 (.nl (.sc (.sc (.nl (.nl (.nl .nil))))))))))) (.sc (.sc .nil))) ⟨(K5 ⟨_, rfl, rfl⟩ (Ec ⟨(An ⟨_, _, rfl, rfl⟩), (Ec ⟨(An ⟨_, _, rfl, rfl⟩), (Ha ⟨(An ⟨_, _, rfl, rfl⟩), (Fi ⟨(An ⟨_, _, rfl, rfl⟩), ⟨(An ⟨_, _, rfl, rfl⟩), ⟨(An ⟨_, _, rfl, rfl⟩), trivial⟩⟩⟩)⟩)⟩)⟩)), (Fi trivial)⟩) ?_)))
 have e : E9 D2 B = ((Bj 0), 0, 2) := by
  unfold E9 E7 E6; simp only [h3, h6, h9, h10, h12, h44, h48, q7, if_true, if_false, zaa, reduceIte, Ay]
 ·rw [e]
  first | done | rfl
 refine Ac (nT h44) (Ac (nT h44) (Ac (nT h44) (Ac (nT h44) (Ac (nT h44) (Ac (nT h44) (Ac (nT h44) (Ac (nT h44) (Ac (nT h44) (B4 (nT h44) (Au rfl (Bh (cs := Ez) rfl (Cm (cs' := Ez) s43 zP7 (Am rfl) rfl (Cr rfl) rfl fun H s51 => Av s51 (.here) rfl (Ah (Cq s51 rfl (.agg ⟨_, rfl, rfl⟩ (Eb (.nl (Eb (.nl (G8 (.nl (.sc (.sc (.nl (.nl (.nl .nil))))))))))) (.sc (.sc .nil))) ⟨(K5 ⟨_, rfl, rfl⟩ (Ec ⟨(An ⟨_, _, rfl, rfl⟩), (Ec ⟨(An ⟨_, _, rfl, rfl⟩), (Ha ⟨(An ⟨_, _, rfl, rfl⟩), (Fi ⟨(An ⟨_, _, rfl, rfl⟩), ⟨(An ⟨_, _, rfl, rfl⟩), ⟨(An ⟨_, _, rfl, rfl⟩), trivial⟩⟩⟩)⟩)⟩)⟩)), (Fi trivial)⟩) ?_)))))))))))))
 have e : E9 D2 B = ((Bj 0), 0, 2) := by
  unfold E9 E7 E6; simp only [h3, h6, h9, h10, h12, h44, q7, if_true, if_false, zaa, reduceIte, Ay]
 ·rw [e]
  first | done | rfl
 have dh9 := of_decide_eq_false h9
 refine Au (nT h9) (Bh (cs := Ez) rfl (Cm (cs' := Ez) s8 (.here) (Am rfl) rfl (Cr rfl) rfl fun H s52 => Av s52 (.here) rfl (Ah (Cq s52 rfl (.agg ⟨_, rfl, rfl⟩ (Eb (.nl (Eb (.nl (G8 (.nl (.sc (.sc (.nl (.nl (.nl .nil))))))))))) (.sc (.sc .nil))) ⟨(K5 ⟨_, rfl, rfl⟩ (Ec ⟨(An ⟨_, _, rfl, rfl⟩), (Ec ⟨(An ⟨_, _, rfl, rfl⟩), (Ha ⟨(An ⟨_, _, rfl, rfl⟩), (Fi ⟨(An ⟨_, _, rfl, rfl⟩), ⟨(An ⟨_, _, rfl, rfl⟩), ⟨(An ⟨_, _, rfl, rfl⟩), trivial⟩⟩⟩)⟩)⟩)⟩)), (Fi trivial)⟩) ?_)))
 have e : E9 D2 B = ((Bj 0), 0, cq7) := by
  unfold E9 E7 E6; simp only [h3, h6, h9, q7, if_true, if_false, zaa, reduceIte, Ay]
 ·rw [e]
  first | done | rfl
 refine Au (nT h6) (Bh (cs := Ez) rfl (Cm (cs' := Ez) s2 (.here) (Am rfl) rfl (Cr rfl) rfl fun H s53 => Av s53 (.here) rfl (Ah (Cq s53 rfl (.agg ⟨_, rfl, rfl⟩ (Eb (.nl (Eb (.nl (G8 (.nl (.sc (.sc (.nl (.nl (.nl .nil))))))))))) (.sc (.sc .nil))) ⟨(K5 ⟨_, rfl, rfl⟩ (Ec ⟨(An ⟨_, _, rfl, rfl⟩), (Ec ⟨(An ⟨_, _, rfl, rfl⟩), (Ha ⟨(An ⟨_, _, rfl, rfl⟩), (Fi ⟨(An ⟨_, _, rfl, rfl⟩), ⟨(An ⟨_, _, rfl, rfl⟩), ⟨(An ⟨_, _, rfl, rfl⟩), trivial⟩⟩⟩)⟩)⟩)⟩)), (Fi trivial)⟩) ?_)))
 have e : E9 D2 B = ((Bj 0), 0, 2) := by
  unfold E9 E7 E6; simp only [h3, h6, if_true, if_false, zaa, reduceIte, Ay]
 ·rw [e]
  first | done | rfl
theorem Aeo (n : Nat) (hn : 1048576 < n) (B : ByteArray) (hB : B.size ≤ 1048576) : Di E0 (n + 13) 60 31 [Ai B] = some (.tup [.agg (A0 (E9 Dx B).1), .sc (.int .i64 (E9 Dx B).2.1), .sc (.int .i64 (E9 Dx B).2.2)]) := by
 rw [Be, Aho, f31]
 refine C7 (G := (· = some (.tup [.agg (A0 (E9 Dx B).1), .sc (.int .i64 (E9 Dx B).2.1), .sc (.int .i64 (E9 Dx B).2.2)]))) ?_
 try simp only [Fk, A9, Dz, A5, D8, Aw, Bg, Pr.gT, Pr.gF, Pr.hT, Pr.hF, Pr.kT, Pr.kF, Bv, B3, Bw, G4, C2, Dm, Hr]
 have s0 : Sep [] [] := C1
 refine Hw s0 fun i1 H s2 => C4 (Bd (Aa ((decide (((B.size : Nat) : Int) = 0))) (fun h3 => ?_) (fun h3 => ?_)))
 have dh3 := of_decide_eq_true h3
 refine Au h3 (Bh (cs := Ez) rfl (Cm (cs' := Ez) s2 (.here) (Am rfl) rfl (Cr rfl) rfl fun H s4 => Av s4 (.here) rfl (Ah (Cq s4 rfl (.agg ⟨_, rfl, rfl⟩ (Eb (.nl (Eb (.nl (G8 (.nl (.sc (.sc (.nl (.nl (.nl .nil))))))))))) (.sc (.sc .nil))) ⟨(K5 ⟨_, rfl, rfl⟩ (Ec ⟨(An ⟨_, _, rfl, rfl⟩), (Ec ⟨(An ⟨_, _, rfl, rfl⟩), (Ha ⟨(An ⟨_, _, rfl, rfl⟩), (Fi ⟨(An ⟨_, _, rfl, rfl⟩), ⟨(An ⟨_, _, rfl, rfl⟩), ⟨(An ⟨_, _, rfl, rfl⟩), trivial⟩⟩⟩)⟩)⟩)⟩)), (Fi trivial)⟩) ?_)))
 have e : E9 Dx B = ((Bj 0), 0, 1) := by
  unfold E9 E7 E6; simp only [h3, if_true, if_false, zaa, reduceIte, Ay]
 ·rw [e]
  first | done | rfl
 have dh3 := of_decide_eq_false h3
 refine Ax h3 ?_
 have w5 := Ed B 0
 refine Gk (by omega) (by omega) fun _ => Fc (c := .sc (.int .u8 (A7 B 0))) rfl (Jz (by omega) (by omega) (Ar (v := (.bool (B8 (A7 B 0)))) s2 rfl (.cons .sc .nil) (by rw [← Ad8 (f := (A7 B 0)) (by omega) (by omega)]; exact Aac (n + 11) (by omega) (A7 B 0) (by omega)) (C5 (Aa ((B8 (A7 B 0))) (fun h6 => ?_) (fun h6 => ?_)))))
 refine Ax (nF h6) ?_
 obtain ⟨nq7, yq7, cq7, q7⟩ : ∃ w y o, De B 1 = (w, y, o) := ⟨_, _, _, rfl⟩
 have bq7 := Ph (B := B) (a := 1)
 rw [q7] at bq7
 dsimp only at bq7
 refine Ek s2 rfl (.cons .ro (.cons .sc .nil)) (by have h := Agl (n + 10) (by omega) B 1 (by omega) (by omega); rw [q7] at h; exact h) rfl (Bk (Bk (Bk Eh))) ?_
 rintro _ _ H ⟨_, rfl, ⟨_, rfl, ⟨_, rfl, ⟨rfl, rfl⟩⟩⟩⟩ s8
 simp only [zak] at s8
 refine Bs (v := si nq7) rfl (Bs (v := si yq7) rfl (Bs (v := si cq7) rfl (Lh (Aa ((decide (cq7 = 0))) (fun h9 => ?_) (fun h9 => ?_)))))
 have dh9 := of_decide_eq_true h9
 replace bq7 := bq7 (of_decide_eq_true h9)
 refine Ax (nF h9) (Eo (Aa ((decide (340 < nq7))) (fun h10 => ?_) (fun h10 => ?_)))
 have dh10 := of_decide_eq_true h10
 refine Au h10 (Bh (cs := Ez) rfl (Cm (cs' := Ez) s8 (.here) (Am rfl) rfl (Cr rfl) rfl fun H s11 => Av s11 (.here) rfl (Ah (Cq s11 rfl (.agg ⟨_, rfl, rfl⟩ (Eb (.nl (Eb (.nl (G8 (.nl (.sc (.sc (.nl (.nl (.nl .nil))))))))))) (.sc (.sc .nil))) ⟨(K5 ⟨_, rfl, rfl⟩ (Ec ⟨(An ⟨_, _, rfl, rfl⟩), (Ec ⟨(An ⟨_, _, rfl, rfl⟩), (Ha ⟨(An ⟨_, _, rfl, rfl⟩), (Fi ⟨(An ⟨_, _, rfl, rfl⟩), ⟨(An ⟨_, _, rfl, rfl⟩), ⟨(An ⟨_, _, rfl, rfl⟩), trivial⟩⟩⟩)⟩)⟩)⟩)), (Fi trivial)⟩) ?_)))
 have e : E9 Dx B = ((Bj 0), 0, 2) := by
  unfold E9 E7 E6; simp only [h3, h6, h9, h10, q7, if_true, if_false, zaa, reduceIte, Ay]
 ·rw [e]
  first | done | rfl
 have dh10 := of_decide_eq_false h10
 refine Ax h10 (C4 (Nt (by omega) (by omega) (Eo (Aa ((decide ((((B.size : Nat) : Int) - yq7) < nq7))) (fun h12 => ?_) (fun h12 => ?_)))))
 have dh12 := of_decide_eq_true h12
 refine Au h12 (Bh (cs := Ez) rfl (Cm (cs' := Ez) s8 (.here) (Am rfl) rfl (Cr rfl) rfl fun H s13 => Av s13 (.here) rfl (Ah (Cq s13 rfl (.agg ⟨_, rfl, rfl⟩ (Eb (.nl (Eb (.nl (G8 (.nl (.sc (.sc (.nl (.nl (.nl .nil))))))))))) (.sc (.sc .nil))) ⟨(K5 ⟨_, rfl, rfl⟩ (Ec ⟨(An ⟨_, _, rfl, rfl⟩), (Ec ⟨(An ⟨_, _, rfl, rfl⟩), (Ha ⟨(An ⟨_, _, rfl, rfl⟩), (Fi ⟨(An ⟨_, _, rfl, rfl⟩), ⟨(An ⟨_, _, rfl, rfl⟩), ⟨(An ⟨_, _, rfl, rfl⟩), trivial⟩⟩⟩)⟩)⟩)⟩)), (Fi trivial)⟩) ?_)))
 have e : E9 Dx B = ((Bj 0), 0, 1) := by
  unfold E9 E7 E6; simp only [h3, h6, h9, h10, h12, q7, if_true, if_false, zaa, reduceIte, Ay]
 ·rw [e]
  first | done | rfl
 have dh12 := of_decide_eq_false h12
 refine Ax h12 ?_
 have w14 := Ed B 0
 refine Gk (by omega) (by omega) fun _ => Fc (c := su (A7 B 0)) rfl (Jz (by omega) (by omega) (Ca (by omega) (by omega) (Gl yq7 (yq7 + nq7) rfl rfl (by omega) (by omega) (by omega) ?_)))
 have z15 := zau (a := B) (b := yq7.toNat) (e := (yq7 + nq7).toNat)
 refine Dn (Gd.bothE ?_ ?_)
 have hR : (B.extract yq7.toNat (yq7 + nq7).toNat).size ≤ 340 := by rw [zau]; omega
 have hbd := AgS (A7 B 0) (B.extract yq7.toNat (yq7 + nq7).toNat) hR
 have hyp := hbd.hyp (by decide)
 refine Pw s8 rfl (.cons .sc (.cons .ro .nil)) (Agt (n + 5) (by omega) (A7 B 0) (B.extract yq7.toNat (yq7 + nq7).toNat) (by omega) (by omega)) ⟨_, rfl, rfl⟩ (Jc _) ?_
 rintro _ _ H ⟨x16, x17, x18, x19, x20, x21, lx16, lx17, lx18, lx19, lx20, lx21, rfl, rfl⟩ s22
 simp only [zak, za0] at s22
 refine Hw s22 fun i23 H s24 => Cm (cs' := [si ((Dx (A7 B 0) (B.extract yq7.toNat (yq7 + nq7).toNat)).fType), .sc (.bool (Dx (A7 B 0) (B.extract yq7.toNat (yq7 + nq7).toNat)).fDup), si ((Dx (A7 B 0) (B.extract yq7.toNat (yq7 + nq7).toNat)).fQos), .sc (.bool (Dx (A7 B 0) (B.extract yq7.toNat (yq7 + nq7).toNat)).fRetain), si ((Dx (A7 B 0) (B.extract yq7.toNat (yq7 + nq7).toNat)).fId), ss ((Dx (A7 B 0) (B.extract yq7.toNat (yq7 + nq7).toNat)).fTopic), x16, ss ((Dx (A7 B 0) (B.extract yq7.toNat (yq7 + nq7).toNat)).fClient), si ((Dx (A7 B 0) (B.extract yq7.toNat (yq7 + nq7).toNat)).fLevel), .sc (.bool (Dx (A7 B 0) (B.extract yq7.toNat (yq7 + nq7).toNat)).fClean), si ((Dx (A7 B 0) (B.extract yq7.toNat (yq7 + nq7).toNat)).fKeep), .sc (.bool (Dx (A7 B 0) (B.extract yq7.toNat (yq7 + nq7).toNat)).fHasWill), ss ((Dx (A7 B 0) (B.extract yq7.toNat (yq7 + nq7).toNat)).fWTopic), x17, si ((Dx (A7 B 0) (B.extract yq7.toNat (yq7 + nq7).toNat)).fWQos), .sc (.bool (Dx (A7 B 0) (B.extract yq7.toNat (yq7 + nq7).toNat)).fWRetain), .sc (.bool (Dx (A7 B 0) (B.extract yq7.toNat (yq7 + nq7).toNat)).fHasUser), ss ((Dx (A7 B 0) (B.extract yq7.toNat (yq7 + nq7).toNat)).fUser), .sc (.bool (Dx (A7 B 0) (B.extract yq7.toNat (yq7 + nq7).toNat)).fHasPass), x18, si ((Dx (A7 B 0) (B.extract yq7.toNat (yq7 + nq7).toNat)).fCode), .sc (.bool (Dx (A7 B 0) (B.extract yq7.toNat (yq7 + nq7).toNat)).fPresent), x19, x20, x21]) s24 (.here) (Am (Ad rfl (Ad rfl (Ad rfl (Ad rfl (Ad rfl (Ad rfl (Ad lx16 (Ad rfl (Ad rfl (Ad rfl (Ad rfl (Ad rfl (Ad rfl (Ad lx17 (Ad rfl (Ad rfl (Ad rfl (Ad rfl (Ad rfl (Ad lx18 (Ad rfl (Ad rfl (Ad lx19 (Ad lx20 (Ad lx21 rfl)))))))))))))))))))))))))) rfl (Cr rfl) rfl fun H s25 => Av s25 (.here) rfl ?_
 refine Ar (v := (.bool (Ag (Dx (A7 B 0) (B.extract yq7.toNat (yq7 + nq7).toNat))))) s25 rfl (.agg (Ge (.cons (.own (by decide) Ww) (Ge (.cons (.own (by decide) Uk) (K7 (.cons (.own (by decide) Lt) (H5 (.cons (.own (by decide) Ls) (.cons (.own (by decide) Do) (.cons (.own (by decide) C6) .nil)))))))))) .nil) (Q6 (n + 2) (by omega) (Dx (A7 B 0) (B.extract yq7.toNat (yq7 + nq7).toNat)) hyp) (C5 (Aa ((Ag (Dx (A7 B 0) (B.extract yq7.toNat (yq7 + nq7).toNat)))) (fun h26 => ?_) (fun h26 => ?_)))
 refine Af (nF h26) (Av s25 (.here) rfl (Af (nF h26) (Af (nF h26) (Af (nF h26) (Af (nF h26) (Ca (by omega) (by omega) (Af (nF h26) (Gl 0 (yq7 + nq7) rfl rfl (by omega) (by omega) (by omega) ?_))))))))
 have z27 := zau (a := B) (b := (0 : Int).toNat) (e := (yq7 + nq7).toNat)
 refine Af (nF h26) (Cl s25 rfl (.agg (Ge (.cons (.own (by decide) Ww) (Ge (.cons (.own (by decide) Uk) (K7 (.cons (.own (by decide) Lt) (H5 (.cons (.own (by decide) Ls) (.cons (.own (by decide) Do) (.cons (.own (by decide) C6) .nil)))))))))) .nil) (Yk (n + 1) (by omega) (Dx (A7 B 0) (B.extract yq7.toNat (yq7 + nq7).toNat)) hyp (zaB hbd.b1 (by decide)) (zaB hbd.b2 (by decide)) (zaB hbd.b3 (by decide))) (Df (Fe (Dx (A7 B 0) (B.extract yq7.toNat (yq7 + nq7).toNat)))) fun x28 H lx28 s29 => Af (nF h26) (Ar (v := (.bool ((Fe (Dx (A7 B 0) (B.extract yq7.toNat (yq7 + nq7).toNat))).toList == (B.extract (0 : Int).toNat (yq7 + nq7).toNat).toList))) s29 rfl (.cons (.own (by decide) (.here)) (.cons .ro .nil)) (P4 (n + 11) _ (Fe (Dx (A7 B 0) (B.extract yq7.toNat (yq7 + nq7).toNat))) (B.extract (0 : Int).toNat (yq7 + nq7).toNat)) (Af (nF h26) (C5 (A6 (nF h26) (Aa (((Fe (Dx (A7 B 0) (B.extract yq7.toNat (yq7 + nq7).toNat))).toList == (B.extract (0 : Int).toNat (yq7 + nq7).toNat).toList)) (fun h30 => ?_) (fun h30 => ?_)))))))
 refine Ax (nF h30) (Av s29 C6 rfl (Ca (by omega) (by omega) (Cm (cs' := [si ((Dx (A7 B 0) (B.extract yq7.toNat (yq7 + nq7).toNat)).fType), .sc (.bool (Dx (A7 B 0) (B.extract yq7.toNat (yq7 + nq7).toNat)).fDup), si ((Dx (A7 B 0) (B.extract yq7.toNat (yq7 + nq7).toNat)).fQos), .sc (.bool (Dx (A7 B 0) (B.extract yq7.toNat (yq7 + nq7).toNat)).fRetain), si ((Dx (A7 B 0) (B.extract yq7.toNat (yq7 + nq7).toNat)).fId), ss ((Dx (A7 B 0) (B.extract yq7.toNat (yq7 + nq7).toNat)).fTopic), x16, ss ((Dx (A7 B 0) (B.extract yq7.toNat (yq7 + nq7).toNat)).fClient), si ((Dx (A7 B 0) (B.extract yq7.toNat (yq7 + nq7).toNat)).fLevel), .sc (.bool (Dx (A7 B 0) (B.extract yq7.toNat (yq7 + nq7).toNat)).fClean), si ((Dx (A7 B 0) (B.extract yq7.toNat (yq7 + nq7).toNat)).fKeep), .sc (.bool (Dx (A7 B 0) (B.extract yq7.toNat (yq7 + nq7).toNat)).fHasWill), ss ((Dx (A7 B 0) (B.extract yq7.toNat (yq7 + nq7).toNat)).fWTopic), x17, si ((Dx (A7 B 0) (B.extract yq7.toNat (yq7 + nq7).toNat)).fWQos), .sc (.bool (Dx (A7 B 0) (B.extract yq7.toNat (yq7 + nq7).toNat)).fWRetain), .sc (.bool (Dx (A7 B 0) (B.extract yq7.toNat (yq7 + nq7).toNat)).fHasUser), ss ((Dx (A7 B 0) (B.extract yq7.toNat (yq7 + nq7).toNat)).fUser), .sc (.bool (Dx (A7 B 0) (B.extract yq7.toNat (yq7 + nq7).toNat)).fHasPass), x18, si ((Dx (A7 B 0) (B.extract yq7.toNat (yq7 + nq7).toNat)).fCode), .sc (.bool (Dx (A7 B 0) (B.extract yq7.toNat (yq7 + nq7).toNat)).fPresent), x19, x20, x21]) s29 zP8 (Am (Ad rfl (Ad rfl (Ad rfl (Ad rfl (Ad rfl (Ad rfl (Ad lx16 (Ad rfl (Ad rfl (Ad rfl (Ad rfl (Ad rfl (Ad rfl (Ad lx17 (Ad rfl (Ad rfl (Ad rfl (Ad rfl (Ad rfl (Ad lx18 (Ad rfl (Ad rfl (Ad lx19 (Ad lx20 (Ad lx21 rfl)))))))))))))))))))))))))) rfl (Cr rfl) rfl fun H s31 => Av s31 (.here) rfl ?_)))
 refine Ah (Cq s31 rfl (.agg ⟨_, rfl, rfl⟩ (Eb (.own zP8 (Eb (.own zP7 (G8 (.own Ww (.sc (.sc (.own Uk (.own Lt (.own Ls .nil))))))))))) (.sc (.sc .nil))) ⟨(K5 ⟨_, rfl, rfl⟩ (Ec ⟨(Cg (Df ((Dx (A7 B 0) (B.extract yq7.toNat (yq7 + nq7).toNat)).fBody)) (by decide)), (Ec ⟨(Cg (Df ((Dx (A7 B 0) (B.extract yq7.toNat (yq7 + nq7).toNat)).fWBody)) (by decide)), (Ha ⟨(Cg (Df ((Dx (A7 B 0) (B.extract yq7.toNat (yq7 + nq7).toNat)).fPass)) (by decide)), (Fi ⟨(Cg (Kf ((Dx (A7 B 0) (B.extract yq7.toNat (yq7 + nq7).toNat)).fWants)) (by decide)), ⟨(Cg (Tj ((Dx (A7 B 0) (B.extract yq7.toNat (yq7 + nq7).toNat)).fNames)) (by decide)), ⟨(Cg (Wf ((Dx (A7 B 0) (B.extract yq7.toNat (yq7 + nq7).toNat)).fCodes)) (by decide)), trivial⟩⟩⟩)⟩)⟩)⟩)), (Fi trivial)⟩) ?_
 have e : E9 Dx B = ((Dx (A7 B 0) (B.extract yq7.toNat (yq7 + nq7).toNat)), (yq7 + nq7), 0) := by
  unfold E9 E7 E6; simp only [h3, h6, h9, h10, h12, h26, h30, q7, if_true, if_false, zaa, reduceIte, Ay]
 ·rw [e]
  first | done | rfl
 refine Au (nT h30) (Bh (cs := Ez) rfl (Cm (cs' := Ez) s29 zP8 (Am rfl) rfl (Cr rfl) rfl fun H s32 => Av s32 (.here) rfl (Ah (Cq s32 rfl (.agg ⟨_, rfl, rfl⟩ (Eb (.nl (Eb (.nl (G8 (.nl (.sc (.sc (.nl (.nl (.nl .nil))))))))))) (.sc (.sc .nil))) ⟨(K5 ⟨_, rfl, rfl⟩ (Ec ⟨(An ⟨_, _, rfl, rfl⟩), (Ec ⟨(An ⟨_, _, rfl, rfl⟩), (Ha ⟨(An ⟨_, _, rfl, rfl⟩), (Fi ⟨(An ⟨_, _, rfl, rfl⟩), ⟨(An ⟨_, _, rfl, rfl⟩), ⟨(An ⟨_, _, rfl, rfl⟩), trivial⟩⟩⟩)⟩)⟩)⟩)), (Fi trivial)⟩) ?_)))
 have e : E9 Dx B = ((Bj 0), 0, 2) := by
  unfold E9 E7 E6; simp only [h3, h6, h9, h10, h12, h26, h30, q7, if_true, if_false, zaa, reduceIte, Ay]
 ·rw [e]
  first | done | rfl
 refine Ac (nT h26) (Ac (nT h26) (Ac (nT h26) (Ac (nT h26) (Ac (nT h26) (Ac (nT h26) (Ac (nT h26) (Ac (nT h26) (Ac (nT h26) (B4 (nT h26) (Au rfl (Bh (cs := Ez) rfl (Cm (cs' := Ez) s25 zP7 (Am rfl) rfl (Cr rfl) rfl fun H s33 => Av s33 (.here) rfl (Ah (Cq s33 rfl (.agg ⟨_, rfl, rfl⟩ (Eb (.nl (Eb (.nl (G8 (.nl (.sc (.sc (.nl (.nl (.nl .nil))))))))))) (.sc (.sc .nil))) ⟨(K5 ⟨_, rfl, rfl⟩ (Ec ⟨(An ⟨_, _, rfl, rfl⟩), (Ec ⟨(An ⟨_, _, rfl, rfl⟩), (Ha ⟨(An ⟨_, _, rfl, rfl⟩), (Fi ⟨(An ⟨_, _, rfl, rfl⟩), ⟨(An ⟨_, _, rfl, rfl⟩), ⟨(An ⟨_, _, rfl, rfl⟩), trivial⟩⟩⟩)⟩)⟩)⟩)), (Fi trivial)⟩) ?_)))))))))))))
 have e : E9 Dx B = ((Bj 0), 0, 2) := by
  unfold E9 E7 E6; simp only [h3, h6, h9, h10, h12, h26, q7, if_true, if_false, zaa, reduceIte, Ay]
 ·rw [e]
  first | done | rfl
 refine Hw s8 fun i34 H s35 => ?_
 have hR : (B.extract yq7.toNat (yq7 + nq7).toNat).size ≤ 340 := by rw [zau]; omega
 have hbd := AgS (A7 B 0) (B.extract yq7.toNat (yq7 + nq7).toNat) hR
 have hyp := hbd.hyp (by decide)
 refine Pw s35 rfl (.cons .sc (.cons .ro .nil)) (Agt (n + 5) (by omega) (A7 B 0) (B.extract yq7.toNat (yq7 + nq7).toNat) (by omega) (by omega)) ⟨_, rfl, rfl⟩ (Jc _) ?_
 rintro _ _ H ⟨x36, x37, x38, x39, x40, x41, lx36, lx37, lx38, lx39, lx40, lx41, rfl, rfl⟩ s42
 simp only [zak, za0] at s42
 refine Cm (cs' := [si ((Dx (A7 B 0) (B.extract yq7.toNat (yq7 + nq7).toNat)).fType), .sc (.bool (Dx (A7 B 0) (B.extract yq7.toNat (yq7 + nq7).toNat)).fDup), si ((Dx (A7 B 0) (B.extract yq7.toNat (yq7 + nq7).toNat)).fQos), .sc (.bool (Dx (A7 B 0) (B.extract yq7.toNat (yq7 + nq7).toNat)).fRetain), si ((Dx (A7 B 0) (B.extract yq7.toNat (yq7 + nq7).toNat)).fId), ss ((Dx (A7 B 0) (B.extract yq7.toNat (yq7 + nq7).toNat)).fTopic), x36, ss ((Dx (A7 B 0) (B.extract yq7.toNat (yq7 + nq7).toNat)).fClient), si ((Dx (A7 B 0) (B.extract yq7.toNat (yq7 + nq7).toNat)).fLevel), .sc (.bool (Dx (A7 B 0) (B.extract yq7.toNat (yq7 + nq7).toNat)).fClean), si ((Dx (A7 B 0) (B.extract yq7.toNat (yq7 + nq7).toNat)).fKeep), .sc (.bool (Dx (A7 B 0) (B.extract yq7.toNat (yq7 + nq7).toNat)).fHasWill), ss ((Dx (A7 B 0) (B.extract yq7.toNat (yq7 + nq7).toNat)).fWTopic), x37, si ((Dx (A7 B 0) (B.extract yq7.toNat (yq7 + nq7).toNat)).fWQos), .sc (.bool (Dx (A7 B 0) (B.extract yq7.toNat (yq7 + nq7).toNat)).fWRetain), .sc (.bool (Dx (A7 B 0) (B.extract yq7.toNat (yq7 + nq7).toNat)).fHasUser), ss ((Dx (A7 B 0) (B.extract yq7.toNat (yq7 + nq7).toNat)).fUser), .sc (.bool (Dx (A7 B 0) (B.extract yq7.toNat (yq7 + nq7).toNat)).fHasPass), x38, si ((Dx (A7 B 0) (B.extract yq7.toNat (yq7 + nq7).toNat)).fCode), .sc (.bool (Dx (A7 B 0) (B.extract yq7.toNat (yq7 + nq7).toNat)).fPresent), x39, x40, x41]) s42 Ww (Am (Ad rfl (Ad rfl (Ad rfl (Ad rfl (Ad rfl (Ad rfl (Ad lx36 (Ad rfl (Ad rfl (Ad rfl (Ad rfl (Ad rfl (Ad rfl (Ad lx37 (Ad rfl (Ad rfl (Ad rfl (Ad rfl (Ad rfl (Ad lx38 (Ad rfl (Ad rfl (Ad lx39 (Ad lx40 (Ad lx41 rfl)))))))))))))))))))))))))) rfl (Cr rfl) rfl fun H s43 => Av s43 (.here) rfl ?_
 refine Ar (v := (.bool (Ag (Dx (A7 B 0) (B.extract yq7.toNat (yq7 + nq7).toNat))))) s43 rfl (.agg (Ge (.cons (.own (by decide) Ww) (Ge (.cons (.own (by decide) Uk) (K7 (.cons (.own (by decide) Lt) (H5 (.cons (.own (by decide) Ls) (.cons (.own (by decide) Do) (.cons (.own (by decide) C6) .nil)))))))))) .nil) (Q6 (n + 2) (by omega) (Dx (A7 B 0) (B.extract yq7.toNat (yq7 + nq7).toNat)) hyp) (C5 (Aa ((Ag (Dx (A7 B 0) (B.extract yq7.toNat (yq7 + nq7).toNat)))) (fun h44 => ?_) (fun h44 => ?_)))
 refine Af (nF h44) (Av s43 (.here) rfl (Af (nF h44) (Af (nF h44) (Af (nF h44) (Af (nF h44) (Ca (by omega) (by omega) (Af (nF h44) (Gl 0 (yq7 + nq7) rfl rfl (by omega) (by omega) (by omega) ?_))))))))
 have z45 := zau (a := B) (b := (0 : Int).toNat) (e := (yq7 + nq7).toNat)
 refine Af (nF h44) (Cl s43 rfl (.agg (Ge (.cons (.own (by decide) Ww) (Ge (.cons (.own (by decide) Uk) (K7 (.cons (.own (by decide) Lt) (H5 (.cons (.own (by decide) Ls) (.cons (.own (by decide) Do) (.cons (.own (by decide) C6) .nil)))))))))) .nil) (Yk (n + 1) (by omega) (Dx (A7 B 0) (B.extract yq7.toNat (yq7 + nq7).toNat)) hyp (zaB hbd.b1 (by decide)) (zaB hbd.b2 (by decide)) (zaB hbd.b3 (by decide))) (Df (Fe (Dx (A7 B 0) (B.extract yq7.toNat (yq7 + nq7).toNat)))) fun x46 H lx46 s47 => Af (nF h44) (Ar (v := (.bool ((Fe (Dx (A7 B 0) (B.extract yq7.toNat (yq7 + nq7).toNat))).toList == (B.extract (0 : Int).toNat (yq7 + nq7).toNat).toList))) s47 rfl (.cons (.own (by decide) (.here)) (.cons .ro .nil)) (P4 (n + 11) _ (Fe (Dx (A7 B 0) (B.extract yq7.toNat (yq7 + nq7).toNat))) (B.extract (0 : Int).toNat (yq7 + nq7).toNat)) (Af (nF h44) (C5 (A6 (nF h44) (Aa (((Fe (Dx (A7 B 0) (B.extract yq7.toNat (yq7 + nq7).toNat))).toList == (B.extract (0 : Int).toNat (yq7 + nq7).toNat).toList)) (fun h48 => ?_) (fun h48 => ?_)))))))
 refine Ax (nF h48) (Av s47 C6 rfl (Ca (by omega) (by omega) (Cm (cs' := [si ((Dx (A7 B 0) (B.extract yq7.toNat (yq7 + nq7).toNat)).fType), .sc (.bool (Dx (A7 B 0) (B.extract yq7.toNat (yq7 + nq7).toNat)).fDup), si ((Dx (A7 B 0) (B.extract yq7.toNat (yq7 + nq7).toNat)).fQos), .sc (.bool (Dx (A7 B 0) (B.extract yq7.toNat (yq7 + nq7).toNat)).fRetain), si ((Dx (A7 B 0) (B.extract yq7.toNat (yq7 + nq7).toNat)).fId), ss ((Dx (A7 B 0) (B.extract yq7.toNat (yq7 + nq7).toNat)).fTopic), x36, ss ((Dx (A7 B 0) (B.extract yq7.toNat (yq7 + nq7).toNat)).fClient), si ((Dx (A7 B 0) (B.extract yq7.toNat (yq7 + nq7).toNat)).fLevel), .sc (.bool (Dx (A7 B 0) (B.extract yq7.toNat (yq7 + nq7).toNat)).fClean), si ((Dx (A7 B 0) (B.extract yq7.toNat (yq7 + nq7).toNat)).fKeep), .sc (.bool (Dx (A7 B 0) (B.extract yq7.toNat (yq7 + nq7).toNat)).fHasWill), ss ((Dx (A7 B 0) (B.extract yq7.toNat (yq7 + nq7).toNat)).fWTopic), x37, si ((Dx (A7 B 0) (B.extract yq7.toNat (yq7 + nq7).toNat)).fWQos), .sc (.bool (Dx (A7 B 0) (B.extract yq7.toNat (yq7 + nq7).toNat)).fWRetain), .sc (.bool (Dx (A7 B 0) (B.extract yq7.toNat (yq7 + nq7).toNat)).fHasUser), ss ((Dx (A7 B 0) (B.extract yq7.toNat (yq7 + nq7).toNat)).fUser), .sc (.bool (Dx (A7 B 0) (B.extract yq7.toNat (yq7 + nq7).toNat)).fHasPass), x38, si ((Dx (A7 B 0) (B.extract yq7.toNat (yq7 + nq7).toNat)).fCode), .sc (.bool (Dx (A7 B 0) (B.extract yq7.toNat (yq7 + nq7).toNat)).fPresent), x39, x40, x41]) s47 zP8 (Am (Ad rfl (Ad rfl (Ad rfl (Ad rfl (Ad rfl (Ad rfl (Ad lx36 (Ad rfl (Ad rfl (Ad rfl (Ad rfl (Ad rfl (Ad rfl (Ad lx37 (Ad rfl (Ad rfl (Ad rfl (Ad rfl (Ad rfl (Ad lx38 (Ad rfl (Ad rfl (Ad lx39 (Ad lx40 (Ad lx41 rfl)))))))))))))))))))))))))) rfl (Cr rfl) rfl fun H s49 => Av s49 (.here) rfl ?_)))
 refine Ah (Cq s49 rfl (.agg ⟨_, rfl, rfl⟩ (Eb (.own zP8 (Eb (.own zP7 (G8 (.own Ww (.sc (.sc (.own Uk (.own Lt (.own Ls .nil))))))))))) (.sc (.sc .nil))) ⟨(K5 ⟨_, rfl, rfl⟩ (Ec ⟨(Cg (Df ((Dx (A7 B 0) (B.extract yq7.toNat (yq7 + nq7).toNat)).fBody)) (by decide)), (Ec ⟨(Cg (Df ((Dx (A7 B 0) (B.extract yq7.toNat (yq7 + nq7).toNat)).fWBody)) (by decide)), (Ha ⟨(Cg (Df ((Dx (A7 B 0) (B.extract yq7.toNat (yq7 + nq7).toNat)).fPass)) (by decide)), (Fi ⟨(Cg (Kf ((Dx (A7 B 0) (B.extract yq7.toNat (yq7 + nq7).toNat)).fWants)) (by decide)), ⟨(Cg (Tj ((Dx (A7 B 0) (B.extract yq7.toNat (yq7 + nq7).toNat)).fNames)) (by decide)), ⟨(Cg (Wf ((Dx (A7 B 0) (B.extract yq7.toNat (yq7 + nq7).toNat)).fCodes)) (by decide)), trivial⟩⟩⟩)⟩)⟩)⟩)), (Fi trivial)⟩) ?_
 have e : E9 Dx B = ((Dx (A7 B 0) (B.extract yq7.toNat (yq7 + nq7).toNat)), (yq7 + nq7), 0) := by
  unfold E9 E7 E6; simp only [h3, h6, h9, h10, h12, h44, h48, q7, if_true, if_false, zaa, reduceIte, Ay]
 ·rw [e]
  first | done | rfl
 refine Au (nT h48) (Bh (cs := Ez) rfl (Cm (cs' := Ez) s47 zP8 (Am rfl) rfl (Cr rfl) rfl fun H s50 => Av s50 (.here) rfl (Ah (Cq s50 rfl (.agg ⟨_, rfl, rfl⟩ (Eb (.nl (Eb (.nl (G8 (.nl (.sc (.sc (.nl (.nl (.nl .nil))))))))))) (.sc (.sc .nil))) ⟨(K5 ⟨_, rfl, rfl⟩ (Ec ⟨(An ⟨_, _, rfl, rfl⟩), (Ec ⟨(An ⟨_, _, rfl, rfl⟩), (Ha ⟨(An ⟨_, _, rfl, rfl⟩), (Fi ⟨(An ⟨_, _, rfl, rfl⟩), ⟨(An ⟨_, _, rfl, rfl⟩), ⟨(An ⟨_, _, rfl, rfl⟩), trivial⟩⟩⟩)⟩)⟩)⟩)), (Fi trivial)⟩) ?_)))
 have e : E9 Dx B = ((Bj 0), 0, 2) := by
  unfold E9 E7 E6; simp only [h3, h6, h9, h10, h12, h44, h48, q7, if_true, if_false, zaa, reduceIte, Ay]
 ·rw [e]
  first | done | rfl
 refine Ac (nT h44) (Ac (nT h44) (Ac (nT h44) (Ac (nT h44) (Ac (nT h44) (Ac (nT h44) (Ac (nT h44) (Ac (nT h44) (Ac (nT h44) (B4 (nT h44) (Au rfl (Bh (cs := Ez) rfl (Cm (cs' := Ez) s43 zP7 (Am rfl) rfl (Cr rfl) rfl fun H s51 => Av s51 (.here) rfl (Ah (Cq s51 rfl (.agg ⟨_, rfl, rfl⟩ (Eb (.nl (Eb (.nl (G8 (.nl (.sc (.sc (.nl (.nl (.nl .nil))))))))))) (.sc (.sc .nil))) ⟨(K5 ⟨_, rfl, rfl⟩ (Ec ⟨(An ⟨_, _, rfl, rfl⟩), (Ec ⟨(An ⟨_, _, rfl, rfl⟩), (Ha ⟨(An ⟨_, _, rfl, rfl⟩), (Fi ⟨(An ⟨_, _, rfl, rfl⟩), ⟨(An ⟨_, _, rfl, rfl⟩), ⟨(An ⟨_, _, rfl, rfl⟩), trivial⟩⟩⟩)⟩)⟩)⟩)), (Fi trivial)⟩) ?_)))))))))))))
 have e : E9 Dx B = ((Bj 0), 0, 2) := by
  unfold E9 E7 E6; simp only [h3, h6, h9, h10, h12, h44, q7, if_true, if_false, zaa, reduceIte, Ay]
 ·rw [e]
  first | done | rfl
 have dh9 := of_decide_eq_false h9
 refine Au (nT h9) (Bh (cs := Ez) rfl (Cm (cs' := Ez) s8 (.here) (Am rfl) rfl (Cr rfl) rfl fun H s52 => Av s52 (.here) rfl (Ah (Cq s52 rfl (.agg ⟨_, rfl, rfl⟩ (Eb (.nl (Eb (.nl (G8 (.nl (.sc (.sc (.nl (.nl (.nl .nil))))))))))) (.sc (.sc .nil))) ⟨(K5 ⟨_, rfl, rfl⟩ (Ec ⟨(An ⟨_, _, rfl, rfl⟩), (Ec ⟨(An ⟨_, _, rfl, rfl⟩), (Ha ⟨(An ⟨_, _, rfl, rfl⟩), (Fi ⟨(An ⟨_, _, rfl, rfl⟩), ⟨(An ⟨_, _, rfl, rfl⟩), ⟨(An ⟨_, _, rfl, rfl⟩), trivial⟩⟩⟩)⟩)⟩)⟩)), (Fi trivial)⟩) ?_)))
 have e : E9 Dx B = ((Bj 0), 0, cq7) := by
  unfold E9 E7 E6; simp only [h3, h6, h9, q7, if_true, if_false, zaa, reduceIte, Ay]
 ·rw [e]
  first | done | rfl
 refine Au (nT h6) (Bh (cs := Ez) rfl (Cm (cs' := Ez) s2 (.here) (Am rfl) rfl (Cr rfl) rfl fun H s53 => Av s53 (.here) rfl (Ah (Cq s53 rfl (.agg ⟨_, rfl, rfl⟩ (Eb (.nl (Eb (.nl (G8 (.nl (.sc (.sc (.nl (.nl (.nl .nil))))))))))) (.sc (.sc .nil))) ⟨(K5 ⟨_, rfl, rfl⟩ (Ec ⟨(An ⟨_, _, rfl, rfl⟩), (Ec ⟨(An ⟨_, _, rfl, rfl⟩), (Ha ⟨(An ⟨_, _, rfl, rfl⟩), (Fi ⟨(An ⟨_, _, rfl, rfl⟩), ⟨(An ⟨_, _, rfl, rfl⟩), ⟨(An ⟨_, _, rfl, rfl⟩), trivial⟩⟩⟩)⟩)⟩)⟩)), (Fi trivial)⟩) ?_)))
 have e : E9 Dx B = ((Bj 0), 0, 2) := by
  unfold E9 E7 E6; simp only [h3, h6, if_true, if_false, zaa, reduceIte, Ay]
 ·rw [e]
  first | done | rfl
end
section
open Go
theorem AfJ {p : PacketV} (h : Ag p = true) (h1 : 4 ≤ p.fType) (h2 : p.fType ≤ 11) : 1 ≤ p.fId ∧ p.fId ≤ 65535 := by
 obtain ⟨_, _, hk⟩ := Gv h
 unfold Bz at hk
 rw [if_neg (by omega), if_neg (by omega), if_neg (by omega)] at hk
 by_cases h4 : p.fType = 4 ∨ p.fType = 5 ∨ p.fType = 6 ∨ p.fType = 7 ∨ p.fType = 11
 rwa [if_pos h4, Gt] at hk
 rw [if_neg h4, if_pos (by omega)] at hk
 simp only [zaf, Gt] at hk
 exact hk.1
theorem Tb {p : PacketV} (h : Ag p = true) (h1 : p.fType = 8 ∨ p.fType = 9 ∨ p.fType = 10) : (∀ w ∈ p.fWants, Bi w.fFilter = true ∧ 0 ≤ w.fQos ∧ w.fQos < 256) ∧ (∀ w ∈ p.fNames, Bi w = true) ∧ (∀ c ∈ p.fCodes, 0 ≤ c ∧ c < 256) ∧ p.fWants.length + p.fNames.length + p.fCodes.length ≤ 4 := by
 obtain ⟨_, _, hk⟩ := Gv h
 unfold Bz at hk
 rw [if_neg (by omega), if_neg (by omega), if_neg (by omega), if_neg (by omega), if_pos h1] at hk
 unfold E5 Ib Iu F9 at hk
 simp only [zaf, Gt, za8] at hk
 obtain ⟨_, k1, k2, k3, k4⟩ := hk
 refine ⟨fun w hw => ?_, fun w hw => Rh (k2 w hw), fun c hc => ?_, by omega⟩
 have := k1 w hw
 unfold B0 at this
 rw [zaf, Gt] at this
 exact ⟨Rh this.1, by omega, by omega⟩
 have := k3 c hc
 unfold Bt at this
 rw [zaN, Gt, decide_eq_true_eq] at this
 omega
theorem AfK {p : PacketV} (h : Ag p = true) (h1 : 4 ≤ p.fType) (h2 : p.fType ≤ 11) : p = { Bj p.fType with fId := p.fId, fWants := p.fWants, fCodes := p.fCodes, fNames := p.fNames } := by
 obtain ⟨_, hn, _⟩ := Gv h
 obtain ⟨_, _, _, _, _, k6, k7, k8⟩ := K0 h
 unfold Az at hn
 rw [if_neg (by omega), if_neg (by omega), if_neg (by omega)] at hn
 split at hn
 rw [k6 (by omega), k7 (by omega), k8 (by omega)]
 exact hn
 split at hn
 rw [k7 (by omega), k8 (by omega)]
 exact hn
 split at hn
 rw [k6 (by omega), k8 (by omega)]
 exact hn
 split at hn
 rw [k6 (by omega), k7 (by omega)]
 exact hn
 omega
theorem Aaa {p : PacketV} (h : Ag p = true) (h1 : 4 ≤ p.fType) (h2 : p.fType ≤ 11) : D2 (Da p) (Cw p) = p ∧ Dx (Da p) (Cw p) = p := by
 have hid := AfJ h h1 h2
 have ht := (Pt h).2
 have hz := AfK h h1 h2
 obtain ⟨_, _, _, _, _, k6, k7, k8⟩ := K0 h
 have er : Cw p = Et p (Ap bs0 p.fId) := by
  unfold Cw
  rw [if_neg (by omega), if_neg (by omega), if_neg (by omega), if_neg (by omega)]
 have hbl : bl (Cw p) = N8 p.fId ++ ((p.fWants.map Mf).flatten ++ ((p.fCodes.map fun c => u8 (c % 256)) ++ (p.fNames.map Hy).flatten)) ∧ ∀ f a, f = p.fWants.length + p.fNames.length + p.fCodes.length + 1 → Sf (Cw p) a ((p.fWants.map Mf).flatten ++ ((p.fCodes.map fun c => u8 (c % 256)) ++ (p.fNames.map Hy).flatten)) → (∀ g, f ≤ g → Cp p.fType (Cw p) g (a, false) [] [] [] = (p.fWants, p.fCodes, p.fNames)) ∧ (∀ g, f ≤ g → Db p.fType (Cw p) g a [] [] = some (p.fWants, p.fNames)) ∧ ∀ g, f ≤ g → (if p.fType = 9 then F8 (Cw p) g a [] else []) = p.fCodes := by
  have hb0 : bl (Ap bs0 p.fId) = N8 p.fId := by
   rw [Pm]
   rfl
  by_cases h8 : p.fType = 8 ∨ p.fType = 9 ∨ p.fType = 10
  obtain ⟨l1, l2, l3, l4⟩ := Tb h h8
  refine ⟨?_, fun f a hf s => ?_⟩
  rw [er]
  unfold Et
  rw [W8 _ _ l2, W7, W9 _ _ fun w hw => (l1 w hw).1, hb0]
  simp only [zah]
  rcases h8 with h8 | h8 | h8
  rw [k7 (by omega), k8 (by omega)] at s ⊢
  simp only [zaD, zb2, zao] at s
  rw [h8]
  refine ⟨fun g hg => ?_, fun g hg => ?_, fun g hg => by rw [if_neg (by decide)]⟩
  exact Ajm p.fWants [] g a s l1 (by simp only [zat]; omega) (by omega)
  exact Ajo p.fWants [] g a s l1 (by omega)
  rw [k6 (by omega), k8 (by omega)] at s ⊢
  simp only [zaD, zb2, zao, zak] at s
  rw [h8]
  refine ⟨fun g hg => ?_, fun g hg => ?_, fun g hg => ?_⟩
  exact Ajn p.fCodes [] g a s l3 (by simp only [zat]; omega) (by omega)
  obtain ⟨g, rfl⟩ : ∃ k, g = k + 1 := ⟨g - 1, by omega⟩
  exact Qf (.inr (by decide))
  rw [if_pos rfl]
  exact rdC p.fCodes [] g a s l3 (by omega)
  rw [k6 (by omega), k7 (by omega)] at s ⊢
  simp only [zaD, zb2, zao, zak] at s
  rw [h8]
  refine ⟨fun g hg => ?_, fun g hg => ?_, fun g hg => by rw [if_neg (by decide)]⟩
  exact AgQ p.fNames [] g a s l2 (by simp only [zat]; omega) (by omega)
  exact AgR p.fNames [] g a s l2 (by omega)
  have e6 := k6 (by omega)
  have e7 := k7 (by omega)
  have e8 := k8 (by omega)
  refine ⟨?_, fun f a hf s => ?_⟩
  rw [er, Yo e6 e7 e8, hb0, e6, e7, e8]
  simp
  rw [e6, e7, e8] at s ⊢
  simp only [zaD, zb2, zao] at s
  refine ⟨fun g hg => ?_, fun g hg => ?_, fun g hg => by rw [if_neg (by omega)]⟩
  obtain ⟨g, rfl⟩ : ∃ k, g = k + 1 := ⟨g - 1, by omega⟩
  exact Sd s
  obtain ⟨g, rfl⟩ : ∃ k, g = k + 1 := ⟨g - 1, by omega⟩
  exact Qf (.inr (by omega))
 obtain ⟨hb, hl⟩ := hbl
 have s0 := Ty _ hb
 have e0 := Tz s0 (by omega) (by omega)
 obtain ⟨k0, s1⟩ := Ok s0 (by omega) (by omega)
 obtain ⟨q1, q2, q3⟩ := hl _ _ rfl s1
 have hsz : p.fWants.length + p.fNames.length + p.fCodes.length + 1 ≤ (Cw p).size + 1 ∧ p.fWants.length + p.fNames.length + p.fCodes.length + 1 ≤ 8 := by
  by_cases h8 : p.fType = 8 ∨ p.fType = 9 ∨ p.fType = 10
  obtain ⟨l1, l2, l3, l4⟩ := Tb h h8
  have hl := s1.len
  have f1 : ∀ l : List WantV, l.length ≤ ((l.map Mf).flatten).length := fun l => by
   induction l with
   | nil => simp
   | cons w l ih =>
    rw [zaq, za6, zag]
    have : 1 ≤ (Mf w).length := by simp [Mf]
    simp only [zar]
    omega
  have f2 : ∀ l : List ByteArray, l.length ≤ ((l.map Hy).flatten).length := fun l => by
   induction l with
   | nil => simp
   | cons w l ih =>
    rw [zaq, za6, zag]
    have : 1 ≤ (Hy w).length := by simp [Hy, N8]
    simp only [zar]
    omega
  have g1 := f1 p.fWants
  have g2 := f2 p.fNames
  simp only [zag, zbi] at hl
  omega
  rw [k6 (by omega), k7 (by omega), k8 (by omega)]
  simp
 constructor
 unfold D2
 dsimp only
 rw [ht, if_neg (by omega), if_neg (by omega), if_neg (by omega), if_neg (by omega), e0]
 dsimp only
 rw [q1 8 hsz.2]
 exact hz.symm
 unfold Dx
 rw [ht, if_neg (by omega), if_neg (by omega), if_neg (by omega), if_pos (by omega), k0]
 unfold Fs
 dsimp only
 rw [if_neg (by simp), q3 _ hsz.1, q2 _ hsz.1]
 exact hz.symm
theorem Aik {p : PacketV} (h : Ag p = true) : D2 (Da p) (Cw p) = p ∧ Dx (Da p) (Cw p) = p := by
 have ht := (Ij h).ty
 have hf := (Pt h).2
 by_cases h1 : p.fType = 1
 have e : Cw p = Cv p := by unfold Cw; rw [if_pos h1]
 rw [e]
 unfold D2 Dx
 dsimp only
 rw [hf, h1, if_pos rfl, if_pos rfl]
 exact Agf h h1
 by_cases h2 : p.fType = 2
 have e : Cw p = Bb (Bb bs0 (Bc p.fPresent 1 % 256)) (p.fCode % 256) := by unfold Cw; rw [if_neg h1, if_pos h2]
 obtain ⟨a, b, c⟩ := Aii h h2 e
 unfold D2 Dx
 dsimp only
 rw [hf, h2, if_neg (by decide), if_pos rfl, if_neg (by decide), if_pos ⟨rfl, b⟩]
 exact ⟨a, c⟩
 by_cases h3 : p.fType = 3
 have e : Cw p = Dh p := by unfold Cw; rw [if_neg h1, if_neg h2, if_pos h3]
 rw [e]
 exact Aij h h3
 by_cases h4 : p.fType ≤ 11
 exact Aaa h (by omega) h4
 have e : Cw p = bs0 := by unfold Cw; rw [if_neg h1, if_neg h2, if_neg h3, if_pos (by omega)]
 have hz : p = Bj p.fType := by
  obtain ⟨_, hn, _⟩ := Gv h
  unfold Az at hn
  rw [if_neg h1, if_neg h2, if_neg h3, if_neg (by omega), if_neg (by omega), if_neg (by omega), if_neg (by omega)] at hn
  exact hn
 unfold D2 Dx
 dsimp only
 rw [hf, e, if_neg h1, if_neg h2, if_neg h3, if_pos (by omega), if_neg h1, if_neg (by omega), if_neg h3, if_neg (by omega)]
 unfold Fs
 dsimp only
 rw [if_neg (by simp), if_neg (by omega), Qf (.inr (by omega))]
 exact ⟨hz.symm, hz.symm⟩
theorem AfO {B : ByteArray} {a m : Int} (ha : 0 ≤ a) (hm : 0 ≤ m ∧ m < 128) (hb : A7 B a = m) (hs : a < ((B.size : Nat) : Int)) : De B a = (m, a + 1, 0) := by
 unfold De
 rw [if_neg (by omega), Ee, Int.add_zero, if_neg (by omega), hb, if_pos hm.2, if_neg (by omega), Ni hm.1 (by omega)]
 have e : bits .or .i64 0 (m % 128 * 2 ^ (7 * (0 : Int)).toNat) = m := by
  rw [show m % 128 * 2 ^ (7 * (0 : Int)).toNat = m by simp; omega, Sb 7 0 m (by decide) (by decide) (by decide) (by omega) (by omega) (by omega)]
  omega
 rw [e]
theorem AfP {B : ByteArray} {a m : Int} (ha : 0 ≤ a) (hm : 128 ≤ m ∧ m < 16384) (hb : A7 B a = m % 128 + 128) (hb2 : A7 B (a + 1) = m / 128) (hs : a + 1 < ((B.size : Nat) : Int)) : De B a = (m, a + 2, 0) := by
 unfold De
 rw [if_neg (by omega), Ee, Int.add_zero, if_neg (by omega), hb, if_neg (by omega), Ni (by omega) (by omega)]
 have e : bits .or .i64 0 ((m % 128 + 128) % 128 * 2 ^ (7 * (0 : Int)).toNat) = m % 128 := by
  rw [show (m % 128 + 128) % 128 * 2 ^ (7 * (0 : Int)).toNat = m % 128 by simp, Sb 7 0 (m % 128) (by decide) (by decide) (by decide) (by omega) (by omega) (by omega)]
  omega
 rw [e, Int.zero_add, Ee, if_neg (by omega), hb2, if_pos (by omega), if_neg (by omega), Ni (by omega) (by omega)]
 have e2 : bits .or .i64 (m % 128) (m / 128 % 128 * 2 ^ (7 * (1 : Int)).toNat) = m := by
  rw [show m / 128 % 128 * 2 ^ (7 * (1 : Int)).toNat = m / 128 * 128 by
   have : m / 128 % 128 = m / 128 := by omega
   rw [this]
   rfl, Aid 7 (m / 128 * 128) (m % 128) (by omega) (by omega) (by omega) (by omega) (by omega) (by omega)]
  omega
 rw [e2, Int.add_assoc]
 rfl
theorem Xy (B : ByteArray) (a : Int) : ∀ (f : Nat) (i z : Int), (Ee B a f i z).2.2 = 0 → (Ee B a f i z).2.1 ≤ a + i + f
 | 0, i, z, h => by simp [Ee] at h
 | f + 1, i, z, h => by
  rw [Ee] at h ⊢
  split at h
  simp at h
  rename_i h2
  rw [if_neg h2]
  split at h
  rename_i h3
  rw [if_pos h3]
  split at h
  simp at h
  rename_i h4
  rw [if_neg h4]
  show a + i + 1 ≤ _
  omega
  rename_i h3
  rw [if_neg h3]
  have := Xy B a f (i + 1) _ h
  omega
theorem Aag {B : ByteArray} {a n x : Int} (h : De B a = (n, x, 0)) : x ≤ a + 4 := by
 unfold De at h
 split at h
 cases h
 have := Xy B a 4 0 0 (by rw [h])
 rw [h] at this
 simpa using this
theorem AaW {b : ByteArray} {m : Int} (h0 : 0 ≤ m) (h1 : m < 16384) : bl (Dl b m) = bl b ++ (if m < 128 then [u8 m] else [u8 (m % 128 + 128), u8 (m / 128)]) := by
 unfold Dl
 rw [if_pos (by rw [Gt]; omega)]
 unfold J3
 split
 unfold J3
 rw [if_neg (by omega), if_neg (by omega), H9, H9, zah, show (m % 128 + 128) % 256 = m % 128 + 128 by omega, show m / 128 % 256 = m / 128 by omega]
 rfl
 rw [if_pos (by omega), H9, show m % 256 = m by omega]
theorem Aee (p : PacketV) : (Cw p).size ≤ (Hi p).size := by
 unfold Hi
 rw [zac]
 omega
theorem frame {p : PacketV} (h : Ag p = true) {B : ByteArray} {m : Int} (hm : m = (((Cw p).size : Nat) : Int)) (hm2 : m < 16384) {r : List UInt8} (hB : bl B = bl (Hi p) ++ r) : A7 B 0 = Da p ∧ ∃ k, De B 1 = (m, k, 0) ∧ k + m = (((Hi p).size : Nat) : Int) ∧ (1 ≤ k ∧ k + m ≤ ((B.size : Nat) : Int)) ∧ B.extract k.toNat (k + m).toNat = Cw p := by
 obtain ⟨hf, _⟩ := Pt h
 have hsz : (Hi p).size + r.length = B.size := by
  rw [← I6 B, hB, zag, I6]
 have e : bl (Hi p) = u8 (Da p) :: ((if m < 128 then [u8 m] else [u8 (m % 128 + 128), u8 (m / 128)]) ++ bl (Cw p)) := by
  unfold Hi
  rw [Vx, ← hm, AaW (by omega) hm2, H9, show Da p % 256 = Da p by omega]
  simp only [zah]
  rfl
 have s0 := Ty B hB
 rw [e] at s0
 obtain ⟨b0, _, s1⟩ := Sf.head s0
 rw [Ki hf.1 hf.2] at b0
 have el := congrArg List.length e
 rw [I6] at el
 refine ⟨b0, ?_⟩
 have cut : ∀ (k : Int) , Sf B k (bl (Cw p) ++ r) → B.extract k.toNat (k + m).toNat = Cw p := fun k s => by
  apply Y0
  rw [Vy, s.2.2]
  have := s.1
  rw [show (k + m).toNat - k.toNat = (bl (Cw p)).length by rw [I6]; omega, List.take_left]
 by_cases h1 : m < 128
 rw [if_pos h1] at s1 el
 obtain ⟨b1, l1, s2⟩ := Sf.head s1
 rw [Ki (by omega) (by omega)] at b1
 simp only [zar, zag, zat, I6] at el
 exact ⟨2, AfO (by omega) (by omega) b1 l1, by omega, by omega, cut 2 s2⟩
 rw [if_neg h1] at s1 el
 obtain ⟨b1, l1, s2⟩ := Sf.head s1
 obtain ⟨b2, l2, s3⟩ := Sf.head s2
 rw [Ki (by omega) (by omega)] at b1 b2
 simp only [zar, zag, zat, I6] at el
 exact ⟨3, AfP (by omega) (by omega) b1 b2 l2, by omega, by omega, cut 3 s3⟩
theorem Aih {p : PacketV} (h : Ag p = true) : Fe p = Hi p := by
 unfold Fe
 rw [if_pos h]
theorem AfB {B : ByteArray} {n a : Int} (hg : De B 1 = (n, a, 0)) (hn : 0 ≤ n ∧ n ≤ 340) (ha : 1 ≤ a) (hs : a + n ≤ ((B.size : Nat) : Int)) {p : PacketV} (h : Ag p = true) (hp : ((Fe p).toList == (B.extract (0 : Int).toNat (a + n).toNat).toList) = true) : D2 (A7 B 0) (B.extract a.toNat (a + n).toNat) = p ∧ Dx (A7 B 0) (B.extract a.toNat (a + n).toNat) = p := by
 have e := Ou hp
 rw [Aih h] at e
 have hat := Aag hg
 have e2 : bl (Hi p) = (bl B).take (a + n).toNat := by
  rw [e, Vy]
  simp
 have hsz : (Hi p).size = (a + n).toNat := by
  rw [← I6, e2, List.length_take, I6]
  omega
 have hle := Aee p
 have hB : bl B = bl (Hi p) ++ (bl B).drop (a + n).toNat := by
  rw [e2, List.take_append_drop]
 obtain ⟨b0, k, g, g2, g3, g4⟩ := frame h rfl (by omega) hB
 rw [hg] at g
 cases g
 rw [b0, g4]
 exact Aik h
theorem AhR (B : ByteArray) : E9 Dx B = E9 D2 B := by
 unfold E9
 split
 rfl
 split
 rfl
 obtain ⟨n, a, c, e⟩ : ∃ n a c, De B 1 = (n, a, c) := ⟨_, _, _, rfl⟩
 have hb := Ph (B := B) (a := 1)
 rw [e] at hb ⊢
 dsimp only at hb
 unfold E7
 dsimp only
 split
 rfl
 rename_i hc
 have hc : c = 0 := by simpa using hc
 subst hc
 split
 rfl
 rename_i hn
 simp only [decide_eq_true_eq, Int.not_lt] at hn
 split
 rfl
 rename_i hs
 simp only [decide_eq_true_eq, Int.not_lt] at hs
 have hb := hb rfl
 have key : ∀ p, Ag p = true → ((Fe p).toList == (B.extract (0 : Int).toNat (a + n).toNat).toList) = true → _ := fun p h hp => AfB e (by omega) (by omega) (by omega) h hp
 unfold E6
 generalize hI : D2 (A7 B 0) (B.extract a.toNat (a + n).toNat) = x at key ⊢
 generalize hS : Dx (A7 B 0) (B.extract a.toNat (a + n).toNat) = y at key ⊢
 by_cases g1 : Ag x = true ∧ ((Fe x).toList == (B.extract (0 : Int).toNat (a + n).toNat).toList) = true
 have := (key x g1.1 g1.2).2
 rw [this]
 by_cases g2 : Ag y = true ∧ ((Fe y).toList == (B.extract (0 : Int).toNat (a + n).toNat).toList) = true
 have := (key y g2.1 g2.2).1
 rw [this]
 rw [if_pos, if_pos]
 simp only [zaN, Bool.not_eq_true', ← Bool.not_eq_true]
 by_cases k : Ag x = true
 exact .inr fun hq => g1 ⟨k, hq⟩
 exact .inl k
 simp only [zaN, Bool.not_eq_true', ← Bool.not_eq_true]
 by_cases k : Ag y = true
 exact .inr fun hq => g2 ⟨k, hq⟩
 exact .inl k
abbrev Aew (B : ByteArray) : PacketV × Int × Int := E9 D2 B
def B5 (B : ByteArray) : PacketV := (Aew B).1
def AaP (B : ByteArray) : Int := (Aew B).2.1
def Ub (B : ByteArray) : Int := (Aew B).2.2
theorem Aep (n : Nat) (hn : 1048576 < n) (x0 : ByteArray) (b0 : x0.size ≤ 1048576) : Di E0 (n + 13) 60 31 [Ai x0] = some (.tup [.agg (A0 (B5 x0)), .sc (.int .i64 (AaP x0)), .sc (.int .i64 (Ub x0))]) := by
 have h := Aeo n hn x0 b0
 rw [AhR] at h
 exact h
theorem AdK (n : Nat) (hn : 1048576 < n) (x0 : ByteArray) (b0 : x0.size ≤ 1048576) : Di E0 (n + 13) 60 33 [Ai x0] = some (.tup [.agg (A0 (B5 x0)), .sc (.int .i64 (AaP x0)), .sc (.int .i64 (Ub x0))]) := AdJ n hn x0 b0
end
section
open Go
def Hh (x : Oq) : Bool := decide (((x.fHeld.size : Nat) : Int) = 0) || (!x.fBad && decide (Ub x.fHeld = 1))
theorem AdI (n : Nat) (hn : 1048576 < n) (x : Oq) (b0 : x.fHeld.size ≤ 1048576) : Di E0 (n + 14) 4 30 [.agg (Id x)] = some (.sc (.bool (Hh x))) := by
 rw [Be, Ahn, f30]
 refine C7 (G := (· = some (sb (Hh x)))) ?_
 try simp only [Fx, Fk, Bx, A9, Dz, A5, D8, Bg, Pr.gT, Pr.gF, Pr.hT, Pr.hF, Pr.kT, Pr.kF, Bv, B3, Hr]
 have s0 : Sep [] [] := C1
 refine Lg s0 (F4 (Kz _)) fun i1 H s2 => Ab (o' := 0) rfl (Aq (c := Ai x.fHeld) s2 (.here) rfl (Ek s2 rfl (.cons .ro .nil) (AdK n (by omega) x.fHeld b0) rfl (AaD ⟨_, rfl, rfl⟩ (Jc _) (Bk (Bk Eh))) ?_))
 rintro _ _ H ⟨_, _, _, _, rfl, rfl, ⟨x3, x4, x5, x6, x7, x8, lx3, lx4, lx5, lx6, lx7, lx8, rfl, rfl⟩, ⟨_, rfl, ⟨_, rfl, ⟨rfl, rfl⟩⟩⟩⟩ s9
 simp only [zak, za0] at s9
 refine Bs (v := .agg [si ((B5 x.fHeld).fType), .sc (.bool (B5 x.fHeld).fDup), si ((B5 x.fHeld).fQos), .sc (.bool (B5 x.fHeld).fRetain), si ((B5 x.fHeld).fId), ss ((B5 x.fHeld).fTopic), x3, ss ((B5 x.fHeld).fClient), si ((B5 x.fHeld).fLevel), .sc (.bool (B5 x.fHeld).fClean), si ((B5 x.fHeld).fKeep), .sc (.bool (B5 x.fHeld).fHasWill), ss ((B5 x.fHeld).fWTopic), x4, si ((B5 x.fHeld).fWQos), .sc (.bool (B5 x.fHeld).fWRetain), .sc (.bool (B5 x.fHeld).fHasUser), ss ((B5 x.fHeld).fUser), .sc (.bool (B5 x.fHeld).fHasPass), x5, si ((B5 x.fHeld).fCode), .sc (.bool (B5 x.fHeld).fPresent), x6, x7, x8]) rfl (Bs (v := si (AaP x.fHeld)) rfl (Bs (v := si (Ub x.fHeld)) rfl (Hw s9 fun i10 H s11 => Cm (cs' := [si ((B5 x.fHeld).fType), .sc (.bool (B5 x.fHeld).fDup), si ((B5 x.fHeld).fQos), .sc (.bool (B5 x.fHeld).fRetain), si ((B5 x.fHeld).fId), ss ((B5 x.fHeld).fTopic), x3, ss ((B5 x.fHeld).fClient), si ((B5 x.fHeld).fLevel), .sc (.bool (B5 x.fHeld).fClean), si ((B5 x.fHeld).fKeep), .sc (.bool (B5 x.fHeld).fHasWill), ss ((B5 x.fHeld).fWTopic), x4, si ((B5 x.fHeld).fWQos), .sc (.bool (B5 x.fHeld).fWRetain), .sc (.bool (B5 x.fHeld).fHasUser), ss ((B5 x.fHeld).fUser), .sc (.bool (B5 x.fHeld).fHasPass), x5, si ((B5 x.fHeld).fCode), .sc (.bool (B5 x.fHeld).fPresent), x6, x7, x8]) s11 (.here) (Am (Ad rfl (Ad rfl (Ad rfl (Ad rfl (Ad rfl (Ad rfl (Ad lx3 (Ad rfl (Ad rfl (Ad rfl (Ad rfl (Ad rfl (Ad rfl (Ad lx4 (Ad rfl (Ad rfl (Ad rfl (Ad rfl (Ad rfl (Ad lx5 (Ad rfl (Ad rfl (Ad lx6 (Ad lx7 (Ad lx8 rfl)))))))))))))))))))))))))) rfl (Cr rfl) rfl fun H s12 => Ab (o' := 0) rfl (Aq (c := Ai x.fHeld) s12 zP7 rfl (C4 (Bd (Aa ((decide (((x.fHeld.size : Nat) : Int) = 0))) (fun h13 => ?_) (fun h13 => ?_))))))))
 have dh13 := of_decide_eq_true h13
 refine Ac h13 (Ac h13 (Ac h13 (Ac h13 (D7 (D7 (Ac h13 (B4 h13 (Ah rfl ?_))))))))
 have e : Hh x = true := by
  unfold Hh; simp only [h13, zaI, za4, zav, zaw, za1, za5, zaC, zbn]; first | done | rfl | (simp [zbD]; done)
 ·rw [e]
  first | done | rfl
 have dh13 := of_decide_eq_false h13
 refine Af h13 (Ab (o' := 1) rfl (Af h13 (Aq (c := sb x.fBad) s12 zP7 rfl (Af h13 (C5 (Af h13 (Aa (x.fBad) (fun h14 => ?_) (fun h14 => ?_))))))))
 refine Ac (nF h14) (Ac (nF h14) (Af h13 (A6 (nF h14) (A6 h13 (Ah rfl ?_)))))
 have e : Hh x = false := by
  unfold Hh; simp only [h13, h14, zaI, za4, zav, zaw, za1, za5, zaC, zbn]; first | done | rfl | (simp [zbD]; done)
 ·rw [e]
  first | done | rfl
 refine Af (nT h14) (Af (nT h14) (Bd (Af h13 (B4 (nT h14) (A6 h13 (Ah rfl ?_))))))
 have e : Hh x = (decide ((Ub x.fHeld) = 1)) := by
  unfold Hh; simp only [h13, h14, zaI, za4, zav, zaw, za1, za5, zaC, zbn]; first | done | rfl | (simp [zbD]; done)
 ·rw [e]
  first | done | rfl
theorem Xt (n : Nat) (hn : 1048576 < n) (x0 : Oq) (k0 : X3 x0) (b0 : O2 x0 ≤ 1048576) : Di E0 (n + 16) 4 30 [.agg (Id x0)] = some (.sc (.bool (Hh x0))) := AdI (n + 2) (by omega) x0 (by unfold O2 at b0; omega)
theorem Aen (n : Nat) (hn : 1048576 < n) (x : Oq) (b0 : x.fHeld.size ≤ 1048576) : Di E0 (n + 14) 4 29 [.agg (Id x)] = some (.sc (.bool (Hh x))) := by
 rw [Be, Ahm, f29]
 refine C7 (G := (· = some (sb (Hh x)))) ?_
 try simp only [Fx, Fk, Bx, A9, Dz, A5, D8, Aw, Bg, Pr.gT, Pr.gF, Pr.hT, Pr.hF, Pr.kT, Pr.kF, Bv, B3, Hr]
 have s0 : Sep [] [] := C1
 refine Lg s0 (F4 (Kz _)) fun i1 H s2 => Ab (o' := 0) rfl (Aq (c := Ai x.fHeld) s2 (.here) rfl (C4 (Bd (Aa ((decide (((x.fHeld.size : Nat) : Int) = 0))) (fun h3 => ?_) (fun h3 => ?_)))))
 have dh3 := of_decide_eq_true h3
 refine Au h3 (Ah rfl ?_)
 have e : Hh x = true := by
  unfold Hh; simp only [h3, zaI, za4, zav, zaw, za1, za5, zaC, zbn]; first | done | rfl | (simp [zbD]; done)
 ·rw [e]
  first | done | rfl
 have dh3 := of_decide_eq_false h3
 refine Ax h3 (Ab (o' := 0) rfl (Aq (c := Ai x.fHeld) s2 (.here) rfl (Ek s2 rfl (.cons .ro .nil) (Aep n (by omega) x.fHeld b0) rfl (AaD ⟨_, rfl, rfl⟩ (Jc _) (Bk (Bk Eh))) ?_)))
 rintro _ _ H ⟨_, _, _, _, rfl, rfl, ⟨x4, x5, x6, x7, x8, x9, lx4, lx5, lx6, lx7, lx8, lx9, rfl, rfl⟩, ⟨_, rfl, ⟨_, rfl, ⟨rfl, rfl⟩⟩⟩⟩ s10
 simp only [zak, za0] at s10
 refine Bs (v := .agg [si ((B5 x.fHeld).fType), .sc (.bool (B5 x.fHeld).fDup), si ((B5 x.fHeld).fQos), .sc (.bool (B5 x.fHeld).fRetain), si ((B5 x.fHeld).fId), ss ((B5 x.fHeld).fTopic), x4, ss ((B5 x.fHeld).fClient), si ((B5 x.fHeld).fLevel), .sc (.bool (B5 x.fHeld).fClean), si ((B5 x.fHeld).fKeep), .sc (.bool (B5 x.fHeld).fHasWill), ss ((B5 x.fHeld).fWTopic), x5, si ((B5 x.fHeld).fWQos), .sc (.bool (B5 x.fHeld).fWRetain), .sc (.bool (B5 x.fHeld).fHasUser), ss ((B5 x.fHeld).fUser), .sc (.bool (B5 x.fHeld).fHasPass), x6, si ((B5 x.fHeld).fCode), .sc (.bool (B5 x.fHeld).fPresent), x7, x8, x9]) rfl (Bs (v := si (AaP x.fHeld)) rfl (Bs (v := si (Ub x.fHeld)) rfl (Hw s10 fun i11 H s12 => Cm (cs' := [si ((B5 x.fHeld).fType), .sc (.bool (B5 x.fHeld).fDup), si ((B5 x.fHeld).fQos), .sc (.bool (B5 x.fHeld).fRetain), si ((B5 x.fHeld).fId), ss ((B5 x.fHeld).fTopic), x4, ss ((B5 x.fHeld).fClient), si ((B5 x.fHeld).fLevel), .sc (.bool (B5 x.fHeld).fClean), si ((B5 x.fHeld).fKeep), .sc (.bool (B5 x.fHeld).fHasWill), ss ((B5 x.fHeld).fWTopic), x5, si ((B5 x.fHeld).fWQos), .sc (.bool (B5 x.fHeld).fWRetain), .sc (.bool (B5 x.fHeld).fHasUser), ss ((B5 x.fHeld).fUser), .sc (.bool (B5 x.fHeld).fHasPass), x6, si ((B5 x.fHeld).fCode), .sc (.bool (B5 x.fHeld).fPresent), x7, x8, x9]) s12 (.here) (Am (Ad rfl (Ad rfl (Ad rfl (Ad rfl (Ad rfl (Ad rfl (Ad lx4 (Ad rfl (Ad rfl (Ad rfl (Ad rfl (Ad rfl (Ad rfl (Ad lx5 (Ad rfl (Ad rfl (Ad rfl (Ad rfl (Ad rfl (Ad lx6 (Ad rfl (Ad rfl (Ad lx7 (Ad lx8 (Ad lx9 rfl)))))))))))))))))))))))))) rfl (Cr rfl) rfl fun H s13 => Bd (Aa ((decide ((Ub x.fHeld) = 1))) (fun h14 => ?_) (fun h14 => ?_)))))
 have dh14 := of_decide_eq_true h14
 refine Af h14 (Ab (o' := 1) rfl (Af h14 (Aq (c := sb x.fBad) s13 zP7 rfl (Af h14 (C5 (B4 h14 (Ah rfl ?_)))))))
 have e : Hh x = (!x.fBad) := by
  unfold Hh; simp only [h3, h14, zaI, za4, zav, zaw, za1, za5, zaC, zbn]; first | done | rfl | (simp [zbD]; done)
 ·rw [e]
  first | done | rfl
 have dh14 := of_decide_eq_false h14
 refine Ac h14 (Ac h14 (Ac h14 (A6 h14 (Ah rfl ?_))))
 have e : Hh x = false := by
  unfold Hh; simp only [h3, h14, zaI, za4, zav, zaw, za1, za5, zaC, zbn]; first | done | rfl | (simp [zbD]; done)
 ·rw [e]
  first | done | rfl
theorem Yj (n : Nat) (hn : 1048576 < n) (x0 : Oq) (k0 : X3 x0) (b0 : O2 x0 ≤ 1048576) : Di E0 (n + 16) 4 29 [.agg (Id x0)] = some (.sc (.bool (Hh x0))) := Aen (n + 2) (by omega) x0 (by unfold O2 at b0; omega)
end
end Go.Proofs.YtlcpigdmekgajaaGreatDoor.Abs
namespace Go.Proofs.YtlcpigdmekgajaaGreatDoor.Abs
open _root_.Bool renaming false_eq_true → zaa, and_eq_true → zaf, not_true → zav, not_false → zaw, true_and → za1, false_or → za4, false_and → za5, and_true → zaC, true_or → zaI, or_eq_true → zaN, and_false → zbn, and_comm → zbD
open _root_.Option renaming map_eq_some_iff → zaH
open _root_.ByteArray renaming size_append → zac, size_extract → zau
open _root_.List renaming length_append → zag, append_assoc → zah, nil_append → zak, length_singleton → zan, append_nil → zao, map_cons → zaq, length_cons → zar, length_nil → zat, cons_append → za0, flatten_cons → za6, all_eq_true → za8, map_nil → zaD, length_map → zbi, flatten_nil → zb2
open _root_.Nat renaming le_trans → zaB
open _root_.Int renaming tmod_eq_emod_of_nonneg → zaE
open Go
set_option linter.unusedVariables false
set_option linter.unusedSimpArgs false
theorem Aca (n : Nat) (hn : 1048576 < n) (x0 : Oq) (k0 : X3 x0) : Di E0 (n + 30) 4 5 [.agg (Id x0)] = some (.sc (.bool true)) := by
 rw [Be, Ai0, f5]
 simp only [Fx, Fk, A9, Dz, A5, Ik, D8, Aw, Gr]
 refine AhU (Kz x0) fun it1 ht1 => U8 ht1 (Pf x0) (Ajg rfl (Ep (Vt _ (Kz x0)) (Ep (I4 _ _) Jj)) (Agp (n + 27) (by omega) _ x0 k0 _ (by omega) (by omega)) (by omega) rfl fun b0 => U8 ht1 (Pf x0) (Z2 rfl (Ep (Vt _ (Kz x0)) Jj) (Wu (n + 27) (by omega) x0 (by omega)) (Kz x0) (Wh AaO (Wg 5 x0)) fun Xt13 yt13 lt13 et13 wt13 => ?_))
 replace ht1 := Kr ht1 Xt13
 refine J4 rfl (Ep wt13 Jj) (Yj (n + 13) (by omega) x0 k0 (by omega)) (U8 ht1 (Pf x0) (Z2 rfl (Ep (Vt _ (Kz x0)) Jj) (Wu (n + 27) (by omega) x0 (by omega)) (Kz x0) (Wh AaO (Wg 5 x0)) fun Xt16 yt16 lt16 et16 wt16 => ?_))
 replace ht1 := Kr ht1 Xt16
 replace wt13 := wt13.grow Xt16
 refine AhW rfl (lt16.trans (Pf x0)) et16 fun it5 ht5 => ?_
 replace ht1 := Kr ht1 [⟨yt16, true, true⟩]
 replace wt13 := wt13.grow [⟨yt16, true, true⟩]
 replace wt16 := wt16.grow [⟨yt16, true, true⟩]
 refine U8 ht5 (lt16.trans (Pf x0)) (J4 rfl (Ep wt16 Jj) (Xt (n + 13) (by omega) x0 k0 (by omega)) (AhV (U8 ht5 (lt16.trans (Pf x0)) (U8 ht1 (Pf x0) (Z2 rfl (Ep (Vt _ (Kz x0)) Jj) (Wu (n + 27) (by omega) x0 (by omega)) (Kz x0) (Wh AaO (Wg 5 x0)) fun Xt24 yt24 lt24 et24 wt24 => ?_)))))
 replace ht1 := Kr ht1 Xt24
 replace wt13 := wt13.grow Xt24
 replace wt16 := wt16.grow Xt24
 replace ht5 := Kr ht5 Xt24
 refine Ajf rfl (Ep wt16 (Ep wt24 Jj)) (AeI (n + 27) (by omega) _ x0 (by omega)) ?_
 rfl
end Go.Proofs.YtlcpigdmekgajaaGreatDoor.Abs
namespace Go.Proofs.YtlcpigdmekgajaaGreatDoor.fnExactBufOk
open _root_.Option renaming map_eq_some_iff → zaH
open Go Go.Shelf Go.Lib Go.ChangeShapes Go.WideShapes Go.ChangeAt Go.RowKit
open Go.Proofs.YtlcpigdmekgajaaGreatDoor.Abs
set_option linter.unusedVariables false
theorem own : ownKnob Tryz.prog.godebug = none := by kernel_rfl
theorem AfL : laidOutB Tryz.prog = true := by kernel_rfl
theorem types : ([24].all (tyB A4 14)) = true := by kernel_rfl
theorem Aei : ([24].all fun t => Tryz.prog.readableRec t && decide (t < Tryz.prog.types.size)) = true := by kernel_rfl
theorem Ajl {xs : List AV} (h : Aib A4 14 [24] xs) : ∃ n, Di E0 n 4 5 xs = some (.sc (.bool true)) := by
 obtain ⟨y0, ys0, rfl, ⟨cs0, h0, rfl⟩, h⟩ := h
 obtain rfl := h
 obtain ⟨x0, rfl, k0⟩ := AfT h0
 exact ⟨_, Aca 1048577 (by omega) x0 k0⟩
def wArgs : Array Value := #[.agg #[.slice none 0 0, .bool false]]
noncomputable def Og (os : Os) : World :=
 let w0 := World.holding Tryz.prog os ⟨#[], #[], []⟩
 let put (h : Array Obj) (g : Nat) (cs : Array Value) : Array Obj := h.modify g fun
  | .cells _ t frozen => .cells cs t frozen
  | o => o
 let h1 := put w0.heap 0 (Lib.firstTab.map fun z => Value.int .u8 z).toArray
 let h2 := put h1 1 ((List.range 16).flatMap fun i => [Value.int .u8 (Lib.accLo i), Value.int .u8 (Lib.accHi i)]).toArray
 { w0 with heap := h2 }
theorem AdQ (os : Os) (args : Array Value) : laidMet Tryz.prog Rows.fnExactBufOkRow.laid ((Og os).forCall (fun _ _ => 0) ⟨#[], args, []⟩).memory :=
 (LaidIn.of_run (l := Rows.fnExactBufOkRow.laid) [0, 1] 8 (by kernel_rfl) (by kernel_rfl) (by kernel_rfl) (by kernel_rfl)).met
set_option maxRecDepth 100000 in
theorem Yr (os : Os) {H : Type} (enc : TypeId × Value → H) :
  (OpenSpec.ofChange Rows.fnExactBufOkSpec).preRow enc Tryz.prog Tryz.f5 Rows.fnExactBufOkRow.domain false Rows.fnExactBufOkRow.laid ((Og os).forCall (fun _ _ => 0) ⟨#[], wArgs, []⟩).memory wArgs := by
 have hw : ((DataW.whole enc Tryz.prog ((Og os).forCall (fun _ _ => 0) ⟨#[], wArgs, []⟩).memory Tryz.f5.params.toList (OpenSpec.ofChange Rows.fnExactBufOkSpec).vars false wArgs.toList 8).map (fun x => x.2.1)) = some [] := by kernel_rfl
 obtain ⟨⟨x1, x2, x3⟩, hx, hx1⟩ := zaH.1 hw
 simp only at hx1
 subst hx1
 exact OpenSpec.preRow_of_cond 8 hx rfl (fun k hk => by cases hk) rfl (AdQ os _)
set_option maxRecDepth 100000 in
set_option maxHeartbeats 2000000 in
theorem lifted (os : Os) (started : os.Started) (H : Type) (enc : TypeId × Value → H) (F : Stop.Interp) :
  ReturnsInHanded {} Tryz.checked os 5 .any ((OpenSpec.ofChange Rows.fnExactBufOkSpec).preRow enc Tryz.prog Tryz.f5 Rows.fnExactBufOkRow.domain false Rows.fnExactBufOkRow.laid) (((OpenSpec.ofChange Rows.fnExactBufOkSpec).at F).post enc Tryz.prog Tryz.f5 false true false false) := by
 refine returnsInHanded_of_row (C := Tryz.checked) (s := OpenSpec.ofChange Rows.fnExactBufOkSpec) own started (by kernel_rfl) Tryz.func5
  (witness_row_atRef (enc := enc) (C := Tryz.checked) false (Og os) wArgs rfl (by kernel_rfl) (by kernel_rfl) (by kernel_rfl) (Yr os enc)) ?_
 intro W base args ds gs before hval0 hW _ _ _ hL hS _
 have hval : ∀ (j : Nat) t v, Tryz.f5.params[j]? = some t → args[j]? = some v → Value.okWide Tryz.prog W .any base t v := hval0
 have hW' := hW
 obtain ⟨p, q, hA0, hV, rfl, hfz, hnd⟩ := hW
 have hA : DataW.TrodAll enc Tryz.prog W 0 (fun _ => true) true Tryz.f5.params.toList args.toList ds p := hA0
 rw [Tryz.params5] at hA hval
 obtain ⟨xs, hok, hl, hx⟩ := Sj Aes (n := 14) [24] args.toList ds p hA (fun j t v ht hv => hval j t v (by simpa using ht) (by simpa using hv)) types
 obtain ⟨m, hm⟩ := Ajl hok
 have htab0 := utf8Tabs_of_readsT (U8Types.of196 Tryz.laysValid) ⟨by kernel_rfl, by kernel_rfl, by kernel_rfl, by kernel_rfl, by kernel_rfl, by kernel_rfl, by kernel_rfl⟩ (Pinned.utf8First_eq ▸ Lib.laidMet.reads hL (.tail _ (.head _))) (Lib.laidMet.reads hL (.head _))
 have htab : J0 W := ⟨htab0, cell_of_shapedOpen_int (zero := #[.int .i64 0]) hS (of_decide_eq_true (by kernel_rfl)) (by kernel_rfl) rfl (by kernel_rfl) (by kernel_rfl) Tryz.underlying3⟩
 have hc := Acn AjN hm (w := W) htab hl hx
 have hA1 := hA
 obtain ⟨v0, vs0, d0, ds0, p0, q0, hargs, rfl, rfl, g0, r0⟩ := trodAll_cons hA
 obtain ⟨rfl, rfl, rfl⟩ := trodAll_nil r0
 obtain ⟨rfl, rfl⟩ := trodVars_none hV
 have hc2 : Calls Tryz.prog 5 args W fun e W' => e = .returned (.bool true) ∧ Below W.heap.size W W' := by simpa using hc
 refine hc2.mono fun e W' ⟨he, bel⟩ => ?_
 subst he
 exact ⟨_, rfl, _, _, _, [], _, [], hW', trodAll_mk1 (shut_bool Tryz.underlying4 _), O1 AfL bel Aei hA1, rfl, bel.frame _, fun h => by cases h⟩
end Go.Proofs.YtlcpigdmekgajaaGreatDoor.fnExactBufOk
