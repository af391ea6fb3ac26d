/- The law FnExactDropSess and its row: every input, no condition (written by laws.py). -/
import Derived.Test.YtfpmccedangjoaaRows
import Derived.Test.YtfpmccedangjoaaVDrop
import Derived.Test.YtfpmccedangjoaaMk
import Derived.WalkKit
import Derived.ProofKit
import Derived.OpenShut
import Derived.ShutString
import Derived.ChangeOld
import Derived.Below
import Derived.SizedLaws
namespace Go.Proofs.Ytfpmccedangjoaa.Abs
open Go
set_option linter.unusedVariables false
set_option linter.unusedSimpArgs false
theorem law_DropSess (n : Nat) (hn : 1048576 < n) (x0 : StripeV) (x1 : ByteArray) (k0 : okStripe x0) (k1 : okS x1) : tree E0 (n + 30) 4 5 [.agg (encStripe x0), .sc (.string x1)] = some (.sc (.bool true)) := by
  rw [tree_def, f5_eq, f5]
  simp only [PR_box, PR_new, PR_load, PR_store, PR_bin, PR_binB, PR_un, PR_cond, PR_lenS, PR_extr, PR_guard, PR_pick]
  refine w_box (flStripe x0) fun i2 i2E B1 => ?_
  refine lw_str rfl fun b1 => ?_
  refine lw_ld B1 (lenStripe x0) ?_
  refine lw_sz rfl (vcons (Vw_agg _ (flStripe x0)) (vcons (Vw_sc _ _) vnil)) (szF_Stripe (n + 21) (by omega) _ x0 k0 _ (by omega) (by omega)) (by omega) rfl fun b0 => ?_
  have c4 := cntvStripe (x0)
  have s3w : wtStripe x0 ≤ 1048576 := by omega
  have s3 := smwStripe x0 s3w
  have c5 := cntvStripe (vDrop x0 x1)
  obtain ⟨s6w, s6⟩ := resF_DropSess_0 x0 x1 (by omega) (by omega)
  refine lw_ld B1 (lenStripe x0) ?_
  refine lm_agg rfl (vcons (Vw_agg _ (flStripe x0)) vnil) (toF_Stripe (n + 21) (by omega) x0 (by omega)) tyStripe fun y10 X8 N7 n9 a11 => ?_
  have o12 : i2 < N7 := by have := (List.getElem?_eq_some_iff.1 B1).1; omega
  replace B1 := blk_grow B1 X8
  refine lm_agg rfl (vcons (a11.vw (okWStripe 3 (x0))) (vcons (Vw_sc _ _) vnil)) (specF_DropSess (n + 23) (by omega) x0 x1 k0 k1 (by omega) (by omega)) tyStripe fun y16 X14 N13 n15 a17 => ?_
  have o18 : i2 < N13 := by have := (List.getElem?_eq_some_iff.1 B1).1; omega
  replace B1 := blk_grow B1 X14
  refine lm_put rfl (a17.len.trans (lenStripe _)) (a17.leaf (flStripe _)) fun i20 i20E B19 => ?_
  have o21 : i2 < i20 := by have := (List.getElem?_eq_some_iff.1 B1).1; omega
  have o22 : N13 + nbL (encStripe (vDrop x0 x1)) ≤ i20 := by have := a17.2.1; omega
  replace B1 := blk_grow B1 [⟨y16, true, true⟩]
  replace a17 := a17.grow [⟨y16, true, true⟩]
  refine lw_ld B1 (lenStripe x0) ?_
  refine lm_agg rfl (vcons (Vw_agg _ (flStripe x0)) vnil) (toF_Stripe (n + 21) (by omega) x0 (by omega)) tyStripe fun y26 X24 N23 n25 a27 => ?_
  have o28 : i2 < N23 := by have := (List.getElem?_eq_some_iff.1 B1).1; omega
  have o29 : N13 + nbL (encStripe (vDrop x0 x1)) ≤ N23 := by have := a17.2.1; omega
  have o30 : i20 < N23 := by have := (List.getElem?_eq_some_iff.1 B19).1; omega
  replace B1 := blk_grow B1 X24
  replace a17 := a17.grow X24
  replace B19 := blk_grow B19 X24
  refine lm_put rfl (a27.len.trans (lenStripe _)) (a27.leaf (flStripe _)) fun i32 i32E B31 => ?_
  have o33 : i2 < i32 := by have := (List.getElem?_eq_some_iff.1 B1).1; omega
  have o34 : N13 + nbL (encStripe (vDrop x0 x1)) ≤ i32 := by have := a17.2.1; omega
  have o35 : i20 < i32 := by have := (List.getElem?_eq_some_iff.1 B19).1; omega
  have o36 : N23 + nbL (encStripe (x0)) ≤ i32 := by have := a27.2.1; omega
  replace B1 := blk_grow B1 [⟨y26, true, true⟩]
  replace a17 := a17.grow [⟨y26, true, true⟩]
  replace B19 := blk_grow B19 [⟨y26, true, true⟩]
  replace a27 := a27.grow [⟨y26, true, true⟩]
  refine lw_ld B31 (a27.len.trans (lenStripe _)) ?_
  refine lm_agg rfl (vcons (a27.vw (okWStripe 3 (x0))) (vcons (Vw_sc _ _) vnil)) (implF_DropSess (n + 22) (by omega) x0 x1 k0 k1 (by omega) (by omega)) tyStripe fun y40 X38 N37 n39 a41 => ?_
  have o42 : i2 < N37 := by have := (List.getElem?_eq_some_iff.1 B1).1; omega
  have o43 : N13 + nbL (encStripe (vDrop x0 x1)) ≤ N37 := by have := a17.2.1; omega
  have o44 : i20 < N37 := by have := (List.getElem?_eq_some_iff.1 B19).1; omega
  have o45 : N23 + nbL (encStripe (x0)) ≤ N37 := by have := a27.2.1; omega
  have o46 : i32 < N37 := by have := (List.getElem?_eq_some_iff.1 B31).1; omega
  replace B1 := blk_grow B1 X38
  replace a17 := a17.grow X38
  replace B19 := blk_grow B19 X38
  replace a27 := a27.grow X38
  replace B31 := blk_grow B31 X38
  refine lm_put rfl (a41.len.trans (lenStripe _)) (a41.leaf (flStripe _)) fun i48 i48E B47 => ?_
  have o49 : i2 < i48 := by have := (List.getElem?_eq_some_iff.1 B1).1; omega
  have o50 : N13 + nbL (encStripe (vDrop x0 x1)) ≤ i48 := by have := a17.2.1; omega
  have o51 : i20 < i48 := by have := (List.getElem?_eq_some_iff.1 B19).1; omega
  have o52 : N23 + nbL (encStripe (x0)) ≤ i48 := by have := a27.2.1; omega
  have o53 : i32 < i48 := by have := (List.getElem?_eq_some_iff.1 B31).1; omega
  have o54 : N37 + nbL (encStripe (vDrop x0 x1)) ≤ i48 := by have := a41.2.1; omega
  replace B1 := blk_grow B1 [⟨y40, true, true⟩]
  replace a17 := a17.grow [⟨y40, true, true⟩]
  replace B19 := blk_grow B19 [⟨y40, true, true⟩]
  replace a27 := a27.grow [⟨y40, true, true⟩]
  replace B31 := blk_grow B31 [⟨y40, true, true⟩]
  replace a41 := a41.grow [⟨y40, true, true⟩]
  refine lw_ld B47 (a41.len.trans (lenStripe _)) ?_
  refine lw_ld B19 (a17.len.trans (lenStripe _)) ?_
  refine lm_eq rfl (vcons (a41.vw (okWStripe 3 (vDrop x0 x1))) (vcons (a17.vw (okWStripe 3 (vDrop x0 x1))) vnil)) (eqF_Stripe (n + 21) (by omega) _ (vDrop x0 x1) s6w) ?_
  refine lm_not ?_
  refine lm_cf ?_
  refine lw_ld B31 (a27.len.trans (lenStripe _)) ?_
  refine lw_ld B1 (lenStripe x0) ?_
  refine lm_agg rfl (vcons (Vw_agg _ (flStripe x0)) vnil) (toF_Stripe (n + 21) (by omega) x0 (by omega)) tyStripe fun y58 X56 N55 n57 a59 => ?_
  have o60 : i2 < N55 := by have := (List.getElem?_eq_some_iff.1 B1).1; omega
  have o61 : N13 + nbL (encStripe (vDrop x0 x1)) ≤ N55 := by have := a17.2.1; omega
  have o62 : i20 < N55 := by have := (List.getElem?_eq_some_iff.1 B19).1; omega
  have o63 : N23 + nbL (encStripe (x0)) ≤ N55 := by have := a27.2.1; omega
  have o64 : i32 < N55 := by have := (List.getElem?_eq_some_iff.1 B31).1; omega
  have o65 : N37 + nbL (encStripe (vDrop x0 x1)) ≤ N55 := by have := a41.2.1; omega
  have o66 : i48 < N55 := by have := (List.getElem?_eq_some_iff.1 B47).1; omega
  replace B1 := blk_grow B1 X56
  replace a17 := a17.grow X56
  replace B19 := blk_grow B19 X56
  replace a27 := a27.grow X56
  replace B31 := blk_grow B31 X56
  replace a41 := a41.grow X56
  replace B47 := blk_grow B47 X56
  refine lm_eq rfl (vcons (a27.vw (okWStripe 3 (x0))) (vcons (a59.vw (okWStripe 3 (x0))) vnil)) (eqF_Stripe (n + 21) (by omega) _ (x0) s3w) ?_
  refine lm_not ?_
  refine lm_cf ?_
  refine lw_ld B31 (a27.len.trans (lenStripe _)) ?_
  refine lm_markv (mk_StripeV (n + 24) (by omega)) rfl a27 (wfvStripe _ s3) (by omega) (by omega) fun G67 a69 q68 => ?_
  replace B1 := blk_kept B1 q68 (by omega)
  replace a17 := a17.kept q68 (by omega)
  replace B19 := blk_kept B19 q68 (by omega)
  replace a41 := a41.kept q68 (by omega)
  replace B47 := blk_kept B47 q68 (by omega)
  refine lm_neg (by omega) ?_
  refine lm_gf ?_
  refine lw_ld B47 (a41.len.trans (lenStripe _)) ?_
  refine lm_gf ?_
  refine lw_ld B19 (a17.len.trans (lenStripe _)) ?_
  refine lm_gf ?_
  refine lm_eq rfl (vcons (a41.vw (okWStripe 3 (vDrop x0 x1))) (vcons (a17.vw (okWStripe 3 (vDrop x0 x1))) vnil)) (eqF_Stripe (n + 21) (by omega) _ (vDrop x0 x1) s6w) ?_
  refine lm_gf ?_
  refine lm_not ?_
  refine lm_pk ?_
  refine lm_cf ?_
  refine lw_ld B47 (a41.len.trans (lenStripe _)) ?_
  refine lm_markv (mk_StripeV (n + 24) (by omega)) rfl a41 (wfvStripe _ s6) (by omega) (by omega) fun G70 a72 q71 => ?_
  replace B1 := blk_kept B1 q71 (by omega)
  replace a17 := a17.kept q71 (by omega)
  replace B19 := blk_kept B19 q71 (by omega)
  replace B47 := blk_kept B47 q71 (by omega)
  refine lw_ld B47 (a41.len.trans (lenStripe _)) ?_
  refine lm_heldv (hd_StripeV (n + 24) (by omega)) (a72.vw (okLW_mk7 _ _ (okWStripe 3 (vDrop x0 x1)))) (wfvStripe _ s6) (by omega) (by omega) ?_
  refine lm_neI ?_
  refine lm_cf ?_
  refine lw_ld B1 (lenStripe x0) ?_
  refine lm_agg rfl (vcons (Vw_agg _ (flStripe x0)) vnil) (toF_Stripe (n + 21) (by omega) x0 (by omega)) tyStripe fun y76 X74 N73 n75 a77 => ?_
  have o78 : N13 + nbL (encStripe (vDrop x0 x1)) ≤ N73 := by have := a17.2.1; omega
  have o79 : i20 < N73 := by have := (List.getElem?_eq_some_iff.1 B19).1; omega
  have o80 : N37 + nbL (encStripe (vDrop x0 x1)) ≤ N73 := by have := a72.2.1; rw [mkL_nb] at this; omega
  have o81 : i48 < N73 := by have := (List.getElem?_eq_some_iff.1 B47).1; omega
  replace a17 := a17.grow X74
  replace B19 := blk_grow B19 X74
  replace a72 := a72.grow X74
  replace B47 := blk_grow B47 X74
  refine lm_agg rfl (vcons (a77.vw (okWStripe 3 (x0))) (vcons (Vw_sc _ _) vnil)) (implF_DropSess (n + 22) (by omega) x0 x1 k0 k1 (by omega) (by omega)) tyStripe fun y85 X83 N82 n84 a86 => ?_
  have o87 : N13 + nbL (encStripe (vDrop x0 x1)) ≤ N82 := by have := a17.2.1; omega
  have o88 : i20 < N82 := by have := (List.getElem?_eq_some_iff.1 B19).1; omega
  have o89 : N37 + nbL (encStripe (vDrop x0 x1)) ≤ N82 := by have := a72.2.1; rw [mkL_nb] at this; omega
  have o90 : i48 < N82 := by have := (List.getElem?_eq_some_iff.1 B47).1; omega
  replace a17 := a17.grow X83
  replace B19 := blk_grow B19 X83
  replace a72 := a72.grow X83
  replace B47 := blk_grow B47 X83
  refine lm_put rfl (a86.len.trans (lenStripe _)) (a86.leaf (flStripe _)) fun i92 i92E B91 => ?_
  have o93 : N13 + nbL (encStripe (vDrop x0 x1)) ≤ i92 := by have := a17.2.1; omega
  have o94 : i20 < i92 := by have := (List.getElem?_eq_some_iff.1 B19).1; omega
  have o95 : N37 + nbL (encStripe (vDrop x0 x1)) ≤ i92 := by have := a72.2.1; rw [mkL_nb] at this; omega
  have o96 : i48 < i92 := by have := (List.getElem?_eq_some_iff.1 B47).1; omega
  have o97 : N82 + nbL (encStripe (vDrop x0 x1)) ≤ i92 := by have := a86.2.1; omega
  replace a17 := a17.grow [⟨y85, true, true⟩]
  replace B19 := blk_grow B19 [⟨y85, true, true⟩]
  replace a72 := a72.grow [⟨y85, true, true⟩]
  replace B47 := blk_grow B47 [⟨y85, true, true⟩]
  replace a86 := a86.grow [⟨y85, true, true⟩]
  refine lw_ld B91 (a86.len.trans (lenStripe _)) ?_
  refine lw_ld B19 (a17.len.trans (lenStripe _)) ?_
  refine lm_eq rfl (vcons (a86.vw (okWStripe 3 (vDrop x0 x1))) (vcons (a17.vw (okWStripe 3 (vDrop x0 x1))) vnil)) (eqF_Stripe (n + 21) (by omega) _ (vDrop x0 x1) s6w) ?_
  refine lm_not ?_
  refine lm_cf ?_
  refine lw_ld B47 (a41.len.trans (lenStripe _)) ?_
  refine lm_heldv (hd_StripeV (n + 24) (by omega)) (a72.vw (okLW_mk7 _ _ (okWStripe 3 (vDrop x0 x1)))) (wfvStripe _ s6) (by omega) (by omega) ?_
  refine lm_neI ?_
  refine lm_cf ?_
  rfl
end Go.Proofs.Ytfpmccedangjoaa.Abs
namespace Go.Proofs.Ytfpmccedangjoaa.fnExactDropSess
open Go Go.ChangeShapes Go.WideShapes Go.ChangeAt Go.RowKit
open Go.Proofs.Ytfpmccedangjoaa.Abs
set_option linter.unusedVariables false
theorem own : ownKnob Try.prog.godebug = none := by kernel_rfl
theorem laidOut : laidOutB Try.prog = true := by kernel_rfl
theorem types : ([24, 9].all (tyB ti0 14)) = true := by kernel_rfl
theorem readable : ([24, 9].all fun t => Try.prog.readableRec t && decide (t < Try.prog.types.size)) = true := by kernel_rfl

theorem pure_ {xs : List AV} (h : okAs ti0 14 [24, 9] xs) : ∃ n, tree E0 n 4 5 xs = some (.sc (.bool true)) := by
  obtain ⟨y0, ys0, rfl, ⟨cs0, h0, rfl⟩, h⟩ := h
  obtain ⟨y1, ys1, rfl, ⟨cs1, h1, rfl⟩, h⟩ := h
  obtain rfl := h
  obtain ⟨x0, rfl, k0⟩ := okT_Stripe h0
  obtain ⟨x1, rfl, k1⟩ := okT_str' h1
  exact ⟨_, law_DropSess 1048577 (by omega) x0 x1 k0 k1⟩

set_option maxRecDepth 100000 in
theorem lifted (os : Os) (started : os.Started) (H : Type) (enc : TypeId × Value → H) :
    ReturnsInHanded {} Try.checked os 5 .any (Rows.fnExactDropSessSpec.pre6 enc Try.prog Try.f5 Rows.fnExactDropSessRow.domain false) (Rows.fnExactDropSessSpec.post enc Try.prog Try.f5 false true false false) := by
  refine returnsInHanded_of_change_sized (C := Try.checked) own started (by kernel_rfl) Try.func5
    (ChangeSpec.witness6 (enc := enc) (C := Try.checked) false ⟨#[], #[.agg #[.int .i64 0, .slice none 0 0], .string ⟨#[]⟩], []⟩ 8 (by kernel_rfl) (by kernel_rfl) (by kernel_rfl) (by kernel_rfl)) ?_
  intro W base args ds gs before hval0 hW hcnd hsz0 _
  have hval : ∀ (j : Nat) t v, Try.f5.params[j]? = some t → args[j]? = some v → Value.okWide Try.prog W .any base t v := hval0
  have hW' := hW
  obtain ⟨p, q, hA0, hV, rfl, hfz, hnd⟩ := hW
  have hA : DataW.TrodAll enc Try.prog W 0 (fun _ => true) true Try.f5.params.toList args.toList ds p := hA0
  rw [Try.params5] at hA hval
  obtain ⟨xs, hok, hl, hx⟩ := args_sound tabOk0 (n := 14) [24, 9] args.toList ds p hA (fun j t v ht hv => hval j t v (by simpa using ht) (by simpa using hv)) types
  obtain ⟨m, hm⟩ := pure_ hok
  have hc := tree_bool env0 hm (w := W) trivial hl hx
  have hA1 := hA
  obtain ⟨v0, vs0, d0, ds0, p0, q0, hargs, rfl, rfl, g0, r0⟩ := trodAll_cons hA
  obtain ⟨v1, vs1, d1, ds1, p1, q1, rfl, rfl, rfl, g1, r1⟩ := trodAll_cons r0
  obtain ⟨rfl, rfl, rfl⟩ := trodAll_nil r1
  obtain ⟨rfl, rfl⟩ := trodVars_none hV
  have hc2 : Calls Try.prog 5 args W fun e W' => e = .returned (.bool true) ∧ Below W.heap.size W W' := by simpa using hc
  refine hc2.mono fun e W' ⟨he, bel⟩ => ?_
  subst he
  exact ⟨_, rfl, _, _, _, [], _, [], hW', trodAll_mk1 (shut_bool Try.underlying4 _), trodAll_stays laidOut bel readable hA1, rfl, bel.frame _, fun h => by cases h⟩
theorem over : Rows.fnExactDropSessRow.holds Try.pinned (OpenSpec.ofChange Rows.fnExactDropSessSpec) :=
  OpenClaim.holds_of_wide 5 Try.f5 rfl rfl rfl rfl rfl rfl rfl ⟨rfl, rfl, rfl, rfl, rfl⟩ rfl rfl rfl rfl rfl (by kernel_rfl) Try.func5 (by kernel_rfl)
    (of_decide_eq_true (by kernel_rfl)) (by unfold Func.isWrapper; first | (rw [if_pos (by decide +kernel)]; kernel_rfl) | (rw [if_neg (by decide +kernel)]; exact ⟨rfl, rfl⟩))
    (fun os started H enc _ => lifted os started H enc)
theorem proved : Rows.FnExactDropSessSaid := over
#print axioms proved
end Go.Proofs.Ytfpmccedangjoaa.fnExactDropSess
namespace Go.Proofs.Ytfpmccedangjoaa
/-- The row, under a short name, for the claim. -/
theorem fnExactDropSess_holds : Rows.FnExactDropSessSaid := fnExactDropSess.proved
end Go.Proofs.Ytfpmccedangjoaa
