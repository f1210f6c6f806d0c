/- what the functions compute, as plain Lean functions, and that they do -/
import Derived.Test.YtacgigkonoegiaaCl1
namespace Go.Proofs.Ytacgigkonoegiaa.Mo
open Go Go.RowKit Go.Proofs.Ytacgigkonoegiaa.SL Go.Proofs.Ytacgigkonoegiaa.GX
set_option linter.unusedVariables false
set_option linter.unusedSimpArgs false
set_option maxRecDepth 100000
set_option maxHeartbeats 4000000

theorem plunderlaw2_stand_ok {z w : World} {L : List HProp} {K : Nat} {p0 : T_plunderlaw2_kept} {ca1 ca3 ca5 ca7 : Option Addr} {cc2 cc4 cc6 cc8 : Nat} {r0 : Bool} (H : plunderlaw2_stand K p0 = some r0) (h : Fit z (sepL (ro2 ca1 cc2 p0.l :: ro2 ca3 cc4 p0.g1 :: ro2 ca5 cc6 p0.g2 :: ro2 ca7 cc8 p0.g3 :: L)) w)  :
    Calls Try.prog 92 #[.agg #[vI p0.m, .slice ca1 p0.l.length cc2, .slice ca3 p0.g1.length cc4, .slice ca5 p0.g2.length cc6, .slice ca7 p0.g3.length cc8]] w fun e w => e = .returned (vB r0) ∧ Fit z (sepL (ro2 ca1 cc2 p0.l :: ro2 ca3 cc4 p0.g1 :: ro2 ca5 cc6 p0.g2 :: ro2 ca7 cc8 p0.g3 :: L)) w := by
 unfold plunderlaw2_stand at H
 refine enter Try.func92 rfl 150 rfl rfl [(0, .agg #[vI p0.m, .slice ca1 p0.l.length cc2, .slice ca3 p0.g1.length cc4, .slice ca5 p0.g2.length cc6, .slice ca7 p0.g3.length cc8])] ⟨rfl, trivial⟩ ?_
 intro j a hr
 refine sr ?_
 refine onew (wn rfl) hr h nb (#[vI p0.m, .slice ca1 p0.l.length cc2, .slice ca3 p0.g1.length cc4, .slice ca5 p0.g2.length cc6, .slice ca7 p0.g3.length cc8]) 139 fun b9 w a h hr => ?_
 refine o1 hr (vB false) fun a hr => ?_
 refine ln ?_
 refine sr ?_
 refine o1 hr (pA b9 1) fun a hr => ?_
 refine ld (wn rfl) hr (.slice ca1 p0.l.length cc2) (h.cell 1 rfl) fun a hr => ?_
 refine oo [9, 3] [vI ((p0.l.length : Nat) : Int), vI ((p0.l.length : Nat) : Int)] hr fun a hr => ?_
 refine ln ?_
 obtain ⟨o11, H, hK10⟩ := jd0 H
 refine cut_rule (β := Unit) (fun _ a w => .inl () = o11 ∧ ∃ j, Rep 150 (lk [(1, pA b9 0), (3, vI ((p0.l.length : Nat) : Int))] j) a ∧ Fit z (sepL (ob139 b9 p0 ca1 cc2 ca3 cc4 ca5 cc6 ca7 cc8 :: ro2 ca1 cc2 p0.l :: ro2 ca3 cc4 p0.g1 :: ro2 ca5 cc6 p0.g2 :: ro2 ca7 cc8 p0.g3 :: L)) w) ?_ ?_
 ·
  refine sr ?_
  refine o1 hr (pA b9 1) fun a hr => ?_
  refine ld (wn rfl) hr (.slice ca1 p0.l.length cc2) (h.cell 1 rfl) fun a hr => ?_
  refine oo [12, 13] [vI ((p0.l.length : Nat) : Int), pA b9 0] hr fun a hr => ?_
  refine ld (wn rfl) hr (vI p0.m) (h.cell 0 rfl) fun a hr => ?_
  obtain ⟨r12, e13, H⟩ := bd1 H
  have hc := plunderlaw2_full_ok (va0 := ca1) (vc0 := cc2) (hv0 := (RdRow.of_row encZ_i64_ok (h.pick 1) (fun h => (h.pick 1)))) (H := e13) (h := h)
  refine cl (wn rfl) hr hc ?_; clear hc h
  rintro _ w ⟨rfl, h⟩; refine ⟨_, rfl, fun a hr => ?_⟩
  refine oo [16, 17] [vB (!r12), vB (!r12)] hr fun a hr => ?_
  by_cases c14 : r12 = true
  ·
   replace H := ifT c14 H
   refine onl (show (!r12) = false from (by rw [show r12 = true from (c14)]; rfl)) [18] [pA b9 2] hr fun a hr => ?_
   refine ld (wgt hr (x := !r12) (c := false) (by rw [show r12 = true from (c14)]; rfl)) hr (.slice ca3 p0.g1.length cc4) (h.cell 2 rfl) fun a hr => ?_
   refine onl (show (!r12) = false from (by rw [show r12 = true from (c14)]; rfl)) [20, 21] [vI ((p0.l.length : Nat) : Int), pA b9 0] hr fun a hr => ?_
   refine ld (wgt hr (x := !r12) (c := false) (by rw [show r12 = true from (c14)]; rfl)) hr (vI p0.m) (h.cell 0 rfl) fun a hr => ?_
   obtain ⟨r15, e16, H⟩ := bd1 H
   have hc := plunderlaw2_full_ok (va0 := ca3) (vc0 := cc4) (hv0 := (RdRow.of_row encZ_i64_ok (h.pick 2) (fun h => (h.pick 2)))) (H := e16) (h := h)
   refine cl (wgt hr (x := !r12) (c := false) (by rw [show r12 = true from (c14)]; rfl)) hr hc ?_; clear hc h
   rintro _ w ⟨rfl, h⟩; refine ⟨_, rfl, fun a hr => ?_⟩
   refine onl (show (!r12) = false from (by rw [show r12 = true from (c14)]; rfl)) [24] [vB (!r15)] hr fun a hr => ?_
   refine opv (wn rfl) hr (vB (!r15)) (rp_f (b := (!r12)) rfl (by kernel_rfl) (by rw [show r12 = true from (c14)]; rfl) (by kernel_rfl)) fun a hr => ?_
   refine o1 hr (vB (!r15)) fun a hr => ?_
   by_cases c17 : r15 = true
   ·
    replace H := ifT c17 H
    refine onl (show (!r15) = false from (by rw [show r15 = true from (c17)]; rfl)) [27] [pA b9 3] hr fun a hr => ?_
    refine ld (wgt hr (x := !r15) (c := false) (by rw [show r15 = true from (c17)]; rfl)) hr (.slice ca5 p0.g2.length cc6) (h.cell 3 rfl) fun a hr => ?_
    refine onl (show (!r15) = false from (by rw [show r15 = true from (c17)]; rfl)) [29, 30] [vI ((p0.l.length : Nat) : Int), pA b9 0] hr fun a hr => ?_
    refine ld (wgt hr (x := !r15) (c := false) (by rw [show r15 = true from (c17)]; rfl)) hr (vI p0.m) (h.cell 0 rfl) fun a hr => ?_
    obtain ⟨r18, e19, H⟩ := bd1 H
    have hc := plunderlaw2_full_ok (va0 := ca5) (vc0 := cc6) (hv0 := (RdRow.of_row encZ_i64_ok (h.pick 3) (fun h => (h.pick 3)))) (H := e19) (h := h)
    refine cl (wgt hr (x := !r15) (c := false) (by rw [show r15 = true from (c17)]; rfl)) hr hc ?_; clear hc h
    rintro _ w ⟨rfl, h⟩; refine ⟨_, rfl, fun a hr => ?_⟩
    refine onl (show (!r15) = false from (by rw [show r15 = true from (c17)]; rfl)) [33] [vB (!r18)] hr fun a hr => ?_
    refine opv (wn rfl) hr (vB (!r18)) (rp_f (b := (!r15)) rfl (by kernel_rfl) (by rw [show r15 = true from (c17)]; rfl) (by kernel_rfl)) fun a hr => ?_
    refine o1 hr (vB (!r18)) fun a hr => ?_
    by_cases c20 : r18 = true
    ·
     replace H := ifT c20 H
     refine onl (show (!r18) = false from (by rw [show r18 = true from (c20)]; rfl)) [36] [pA b9 4] hr fun a hr => ?_
     refine ld (wgt hr (x := !r18) (c := false) (by rw [show r18 = true from (c20)]; rfl)) hr (.slice ca7 p0.g3.length cc8) (h.cell 4 rfl) fun a hr => ?_
     refine onl (show (!r18) = false from (by rw [show r18 = true from (c20)]; rfl)) [38, 39] [vI ((p0.l.length : Nat) : Int), pA b9 0] hr fun a hr => ?_
     refine ld (wgt hr (x := !r18) (c := false) (by rw [show r18 = true from (c20)]; rfl)) hr (vI p0.m) (h.cell 0 rfl) fun a hr => ?_
     obtain ⟨r21, e22, H⟩ := bd1 H
     have hc := plunderlaw2_full_ok (va0 := ca7) (vc0 := cc8) (hv0 := (RdRow.of_row encZ_i64_ok (h.pick 4) (fun h => (h.pick 4)))) (H := e22) (h := h)
     refine cl (wgt hr (x := !r18) (c := false) (by rw [show r18 = true from (c20)]; rfl)) hr hc ?_; clear hc h
     rintro _ w ⟨rfl, h⟩; refine ⟨_, rfl, fun a hr => ?_⟩
     refine onl (show (!r18) = false from (by rw [show r18 = true from (c20)]; rfl)) [42] [vB (!r21)] hr fun a hr => ?_
     refine opv (wn rfl) hr (vB (!r21)) (rp_f (b := (!r18)) rfl (by kernel_rfl) (by rw [show r18 = true from (c20)]; rfl) (by kernel_rfl)) fun a hr => ?_
     refine ln ?_
     refine cM hr H (fun c23 H => ?_) fun c23 H => ?_
     ·
      refine wp_skip ?_
      refine then_normal ?_
      exact ⟨(), sinj H, hr.fj h⟩
     ·
      refine sr ?_
      refine o1 hr (vB false) fun a hr => ?_
      refine ln ?_
      refine wp_ret ?_
      refine then_ret ?_
      refine end_ret1 (v := vB false) rfl hr (by kernel_rfl) ?_
      replace H := jx0 H hK10
      replace H := ej1 H; subst H
      exact ⟨rfl, h.se 5 [1, 2, 3, 4]⟩
    ·
     replace H := ifF c20 H
     refine offl (show (!r18) = true from (by rw [show r18 = false from (bF c20)]; rfl)) [36, 37, 38, 39, 40, 41, 42] hr fun a hr => ?_
     refine opv (wn rfl) hr (vB true) (rp_t (b := (!r18)) rfl (by kernel_rfl) (by rw [show r18 = false from (bF c20)]; rfl) (by kernel_rfl)) fun a hr => ?_
     refine ln ?_
     refine cond_tt hr (b := true) rfl ?_
     refine sr ?_
     refine o1 hr (vB false) fun a hr => ?_
     refine ln ?_
     refine wp_ret ?_
     refine then_ret ?_
     refine end_ret1 (v := vB false) rfl hr (by kernel_rfl) ?_
     replace H := jx0 H hK10
     replace H := ej1 H; subst H
     exact ⟨rfl, h.se 5 [1, 2, 3, 4]⟩
   ·
    replace H := ifF c17 H
    refine offl (show (!r15) = true from (by rw [show r15 = false from (bF c17)]; rfl)) [27, 28, 29, 30, 31, 32, 33] hr fun a hr => ?_
    refine opv (wn rfl) hr (vB true) (rp_t (b := (!r15)) rfl (by kernel_rfl) (by rw [show r15 = false from (bF c17)]; rfl) (by kernel_rfl)) fun a hr => ?_
    refine o1 hr (vB true) fun a hr => ?_
    refine offl (rfl : true = true) [36, 37, 38, 39, 40, 41, 42] hr fun a hr => ?_
    refine o1 hr (vB true) fun a hr => ?_
    refine ln ?_
    refine cond_tt hr (b := true) rfl ?_
    refine sr ?_
    refine o1 hr (vB false) fun a hr => ?_
    refine ln ?_
    refine wp_ret ?_
    refine then_ret ?_
    refine end_ret1 (v := vB false) rfl hr (by kernel_rfl) ?_
    replace H := jx0 H hK10
    replace H := ej1 H; subst H
    exact ⟨rfl, h.se 5 [1, 2, 3, 4]⟩
  ·
   replace H := ifF c14 H
   refine offl (show (!r12) = true from (by rw [show r12 = false from (bF c14)]; rfl)) [18, 19, 20, 21, 22, 23, 24] hr fun a hr => ?_
   refine opv (wn rfl) hr (vB true) (rp_t (b := (!r12)) rfl (by kernel_rfl) (by rw [show r12 = false from (bF c14)]; rfl) (by kernel_rfl)) fun a hr => ?_
   refine o1 hr (vB true) fun a hr => ?_
   refine offl (rfl : true = true) [27, 28, 29, 30, 31, 32, 33] hr fun a hr => ?_
   refine oo [34, 35] [vB true, vB true] hr fun a hr => ?_
   refine offl (rfl : true = true) [36, 37, 38, 39, 40, 41, 42] hr fun a hr => ?_
   refine o1 hr (vB true) fun a hr => ?_
   refine ln ?_
   refine cond_tt hr (b := true) rfl ?_
   refine sr ?_
   refine o1 hr (vB false) fun a hr => ?_
   refine ln ?_
   refine wp_ret ?_
   refine then_ret ?_
   refine end_ret1 (v := vB false) rfl hr (by kernel_rfl) ?_
   replace H := jx0 H hK10
   replace H := ej1 H; subst H
   exact ⟨rfl, h.se 5 [1, 2, 3, 4]⟩
 clear h hr a; rintro _ a w ⟨rfl, j, hr, h⟩
 replace H := jk0 hK10
 obtain ⟨o25, H, hK24⟩ := jd0 H
 refine cut_rule (β := Unit) (fun _ a w => .inl () = o25 ∧ ∃ j, Rep 150 (lk [(1, pA b9 0), (3, vI ((p0.l.length : Nat) : Int))] j) a ∧ Fit z (sepL (ob139 b9 p0 ca1 cc2 ca3 cc4 ca5 cc6 ca7 cc8 :: ro2 ca1 cc2 p0.l :: ro2 ca3 cc4 p0.g1 :: ro2 ca5 cc6 p0.g2 :: ro2 ca7 cc8 p0.g3 :: L)) w) ?_ ?_
 ·
  refine sr ?_
  refine o1 hr (pA b9 2) fun a hr => ?_
  refine ld (wn rfl) hr (.slice ca3 p0.g1.length cc4) (h.cell 2 rfl) fun a hr => ?_
  refine oo [46, 47, 48, 49, 50] [vI ((p0.g1.length : Nat) : Int), vI ((p0.l.length : Nat) : Int), vI (wi (((p0.l.length : Nat) : Int) + 1)), vB (((p0.g1.length : Nat) : Int) != (wi (((p0.l.length : Nat) : Int) + 1))), vB (((p0.g1.length : Nat) : Int) != (wi (((p0.l.length : Nat) : Int) + 1)))] hr fun a hr => ?_
  by_cases c26 : ((p0.g1.length : Nat) : Int) = (wi (((p0.l.length : Nat) : Int) + 1))
  ·
   replace H := ifT c26 H
   refine onl (bne_eq_false_iff_eq.mpr c26) [51] [pA b9 3] hr fun a hr => ?_
   refine ld (wgt hr (bne_eq_false_iff_eq.mpr c26)) hr (.slice ca5 p0.g2.length cc6) (h.cell 3 rfl) fun a hr => ?_
   refine onl (bne_eq_false_iff_eq.mpr c26) [53, 54, 55, 56] [vI ((p0.g2.length : Nat) : Int), vI ((p0.l.length : Nat) : Int), vI (wi (((p0.l.length : Nat) : Int) + 2)), vB (((p0.g2.length : Nat) : Int) != (wi (((p0.l.length : Nat) : Int) + 2)))] hr fun a hr => ?_
   refine opv (wn rfl) hr (vB (((p0.g2.length : Nat) : Int) != (wi (((p0.l.length : Nat) : Int) + 2)))) (rp_f (b := (((p0.g1.length : Nat) : Int) != (wi (((p0.l.length : Nat) : Int) + 1)))) rfl (by kernel_rfl) (bne_eq_false_iff_eq.mpr c26) (by kernel_rfl)) fun a hr => ?_
   refine o1 hr (vB (((p0.g2.length : Nat) : Int) != (wi (((p0.l.length : Nat) : Int) + 2)))) fun a hr => ?_
   by_cases c27 : ((p0.g2.length : Nat) : Int) = (wi (((p0.l.length : Nat) : Int) + 2))
   ·
    replace H := ifT c27 H
    refine onl (bne_eq_false_iff_eq.mpr c27) [59] [pA b9 4] hr fun a hr => ?_
    refine ld (wgt hr (bne_eq_false_iff_eq.mpr c27)) hr (.slice ca7 p0.g3.length cc8) (h.cell 4 rfl) fun a hr => ?_
    refine onl (bne_eq_false_iff_eq.mpr c27) [61, 62, 63, 64] [vI ((p0.g3.length : Nat) : Int), vI ((p0.l.length : Nat) : Int), vI (wi (((p0.l.length : Nat) : Int) + 3)), vB (((p0.g3.length : Nat) : Int) != (wi (((p0.l.length : Nat) : Int) + 3)))] hr fun a hr => ?_
    refine opv (wn rfl) hr (vB (((p0.g3.length : Nat) : Int) != (wi (((p0.l.length : Nat) : Int) + 3)))) (rp_f (b := (((p0.g2.length : Nat) : Int) != (wi (((p0.l.length : Nat) : Int) + 2)))) rfl (by kernel_rfl) (bne_eq_false_iff_eq.mpr c27) (by kernel_rfl)) fun a hr => ?_
    refine ln ?_
    refine cN hr H (fun c28 H => ?_) fun c28 H => ?_
    ·
     refine wp_skip ?_
     refine then_normal ?_
     exact ⟨(), sinj H, hr.fj h⟩
    ·
     refine sr ?_
     refine o1 hr (vB false) fun a hr => ?_
     refine ln ?_
     refine wp_ret ?_
     refine then_ret ?_
     refine end_ret1 (v := vB false) rfl hr (by kernel_rfl) ?_
     replace H := jx0 H hK24
     replace H := ej1 H; subst H
     exact ⟨rfl, h.se 5 [1, 2, 3, 4]⟩
   ·
    replace H := ifF c27 H
    refine offl (bne_iff_ne.mpr c27) [59, 60, 61, 62, 63, 64] hr fun a hr => ?_
    refine opv (wn rfl) hr (vB true) (rp_t (b := (((p0.g2.length : Nat) : Int) != (wi (((p0.l.length : Nat) : Int) + 2)))) rfl (by kernel_rfl) (bne_iff_ne.mpr c27) (by kernel_rfl)) fun a hr => ?_
    refine ln ?_
    refine cond_tt hr (b := true) rfl ?_
    refine sr ?_
    refine o1 hr (vB false) fun a hr => ?_
    refine ln ?_
    refine wp_ret ?_
    refine then_ret ?_
    refine end_ret1 (v := vB false) rfl hr (by kernel_rfl) ?_
    replace H := jx0 H hK24
    replace H := ej1 H; subst H
    exact ⟨rfl, h.se 5 [1, 2, 3, 4]⟩
  ·
   replace H := ifF c26 H
   refine offl (bne_iff_ne.mpr c26) [51, 52, 53, 54, 55, 56] hr fun a hr => ?_
   refine opv (wn rfl) hr (vB true) (rp_t (b := (((p0.g1.length : Nat) : Int) != (wi (((p0.l.length : Nat) : Int) + 1)))) rfl (by kernel_rfl) (bne_iff_ne.mpr c26) (by kernel_rfl)) fun a hr => ?_
   refine o1 hr (vB true) fun a hr => ?_
   refine offl (rfl : true = true) [59, 60, 61, 62, 63, 64] hr fun a hr => ?_
   refine o1 hr (vB true) fun a hr => ?_
   refine ln ?_
   refine cond_tt hr (b := true) rfl ?_
   refine sr ?_
   refine o1 hr (vB false) fun a hr => ?_
   refine ln ?_
   refine wp_ret ?_
   refine then_ret ?_
   refine end_ret1 (v := vB false) rfl hr (by kernel_rfl) ?_
   replace H := jx0 H hK24
   replace H := ej1 H; subst H
   exact ⟨rfl, h.se 5 [1, 2, 3, 4]⟩
 clear h hr a; rintro _ a w ⟨rfl, j, hr, h⟩
 replace H := jk0 hK24
 refine wp_seq ?_
 obtain ⟨c29, H⟩ := gd H
 refine regL [(b9, 2, [.slice ca3 p0.g1.length cc4]), (blk ca3, ((p0.l.length : Nat) : Int).toNat * 1, [vI (at_ p0.g1 ((p0.l.length : Nat) : Int).toNat)]), (b9, 0, [vI p0.m])] [0, 3, 5] 9 h (fun h => ⟨⟨h.cell 2 rfl, trivial⟩, ⟨(h.pick 2).row_cell encZ_i64_ok (f := 0) (at_ok c29) rfl, trivial⟩, ⟨h.cell 0 rfl, trivial⟩, trivial⟩) fun w h hd => ?_
 refine evs' hd 6 [(0, 66, pA b9 2), (2, 68, vI ((p0.l.length : Nat) : Int)), (5, 71, pA b9 0)] hr fun a hr => ?_
 refine elx hd 0 5 1 hr (wn rfl) rfl rfl fun a hr => ?_
 refine eon hd 4 3 rfl (wn rfl) hr (pA (blk ca3) (((p0.l.length : Nat) : Int).toNat * 1)) (hrun := fun w => ri_row (k := .i64) (E := 2) rfl (by kernel_rfl) (by kernel_rfl) (by kernel_rfl) (by kernel_rfl) (h.pick 2) c29) fun a hr => ?_
 refine elx hd 1 3 4 hr (wn rfl) rfl rfl fun a hr => ?_
 refine elx hd 2 2 6 hr (wn rfl) rfl rfl fun a hr => ?_
 refine evs' hd 0 [(7, 73, vI (wi ((at_ p0.g1 ((p0.l.length : Nat) : Int).toNat) - p0.m))), (8, 4, vI (wi ((at_ p0.g1 ((p0.l.length : Nat) : Int).toNat) - p0.m)))] hr fun a hr => ?_
 refine een ?_
 refine then_normal ?_
 refine wp_seq ?_
 obtain ⟨c30, H⟩ := gd H
 refine regL [(b9, 3, [.slice ca5 p0.g2.length cc6]), (blk ca5, ((p0.l.length : Nat) : Int).toNat * 1, [vI (at_ p0.g2 ((p0.l.length : Nat) : Int).toNat)]), (b9, 0, [vI p0.m])] [0, 3, 5] 9 h (fun h => ⟨⟨h.cell 3 rfl, trivial⟩, ⟨(h.pick 3).row_cell encZ_i64_ok (f := 0) (at_ok c30) rfl, trivial⟩, ⟨h.cell 0 rfl, trivial⟩, trivial⟩) fun w h hd => ?_
 refine evs' hd 6 [(0, 74, pA b9 3), (2, 76, vI ((p0.l.length : Nat) : Int)), (5, 79, pA b9 0)] hr fun a hr => ?_
 refine elx hd 0 5 1 hr (wn rfl) rfl rfl fun a hr => ?_
 refine eon hd 4 3 rfl (wn rfl) hr (pA (blk ca5) (((p0.l.length : Nat) : Int).toNat * 1)) (hrun := fun w => ri_row (k := .i64) (E := 2) rfl (by kernel_rfl) (by kernel_rfl) (by kernel_rfl) (by kernel_rfl) (h.pick 3) c30) fun a hr => ?_
 refine elx hd 1 3 4 hr (wn rfl) rfl rfl fun a hr => ?_
 refine elx hd 2 2 6 hr (wn rfl) rfl rfl fun a hr => ?_
 refine evs' hd 0 [(7, 81, vI (wi ((at_ p0.g2 ((p0.l.length : Nat) : Int).toNat) - p0.m))), (8, 5, vI (wi ((at_ p0.g2 ((p0.l.length : Nat) : Int).toNat) - p0.m)))] hr fun a hr => ?_
 refine een ?_
 refine then_normal ?_
 refine wp_seq ?_
 obtain ⟨c31, H⟩ := gd H
 refine regL [(b9, 3, [.slice ca5 p0.g2.length cc6]), (blk ca5, (wi (((p0.l.length : Nat) : Int) + 1)).toNat * 1, [vI (at_ p0.g2 (wi (((p0.l.length : Nat) : Int) + 1)).toNat)]), (b9, 0, [vI p0.m])] [0, 3, 4, 6] 10 h (fun h => ⟨⟨h.cell 3 rfl, trivial⟩, ⟨(h.pick 3).row_cell encZ_i64_ok (f := 0) (at_ok c31) rfl, trivial⟩, ⟨h.cell 0 rfl, trivial⟩, trivial⟩) fun w h hd => ?_
 refine evs' hd 6 [(0, 82, pA b9 3), (2, 84, vI ((p0.l.length : Nat) : Int)), (3, 85, vI (wi (((p0.l.length : Nat) : Int) + 1))), (6, 88, pA b9 0)] hr fun a hr => ?_
 refine elx hd 0 5 1 hr (wn rfl) rfl rfl fun a hr => ?_
 refine eon hd 4 4 rfl (wn rfl) hr (pA (blk ca5) ((wi (((p0.l.length : Nat) : Int) + 1)).toNat * 1)) (hrun := fun w => ri_row (k := .i64) (E := 2) rfl (by kernel_rfl) (by kernel_rfl) (by kernel_rfl) (by kernel_rfl) (h.pick 3) c31) fun a hr => ?_
 refine elx hd 1 3 5 hr (wn rfl) rfl rfl fun a hr => ?_
 refine elx hd 2 2 7 hr (wn rfl) rfl rfl fun a hr => ?_
 refine evs' hd 0 [(8, 90, vI (wi ((at_ p0.g2 (wi (((p0.l.length : Nat) : Int) + 1)).toNat) - p0.m))), (9, 6, vI (wi ((at_ p0.g2 (wi (((p0.l.length : Nat) : Int) + 1)).toNat) - p0.m)))] hr fun a hr => ?_
 refine een ?_
 refine then_normal ?_
 obtain ⟨o33, H, hK32⟩ := jd0 H
 refine cut_rule (β := Unit) (fun _ a w => .inl () = o33 ∧ ∃ j, Rep 150 (lk [(1, pA b9 0), (3, vI ((p0.l.length : Nat) : Int))] j) a ∧ Fit z (sepL (ob139 b9 p0 ca1 cc2 ca3 cc4 ca5 cc6 ca7 cc8 :: ro2 ca1 cc2 p0.l :: ro2 ca3 cc4 p0.g1 :: ro2 ca5 cc6 p0.g2 :: ro2 ca7 cc8 p0.g3 :: L)) w) ?_ ?_
 ·
  refine sr ?_
  refine oo [91, 92, 93] [vI (wi ((at_ p0.g1 ((p0.l.length : Nat) : Int).toNat) - p0.m)), vB ((wi ((at_ p0.g1 ((p0.l.length : Nat) : Int).toNat) - p0.m)) != 1), vB ((wi ((at_ p0.g1 ((p0.l.length : Nat) : Int).toNat) - p0.m)) != 1)] hr fun a hr => ?_
  by_cases c34 : (wi ((at_ p0.g1 ((p0.l.length : Nat) : Int).toNat) - p0.m)) = 1
  ·
   replace H := ifT c34 H
   refine offl (bne_eq_false_iff_eq.mpr c34) [94, 95] hr fun a hr => ?_
   refine opv (wn rfl) hr (vB false) (rp_f (b := ((wi ((at_ p0.g1 ((p0.l.length : Nat) : Int).toNat) - p0.m)) != 1)) rfl (by kernel_rfl) (bne_eq_false_iff_eq.mpr c34) (by kernel_rfl)) fun a hr => ?_
   refine o1 hr (vB false) fun a hr => ?_
   refine offl (rfl : false = false) [98, 99] hr fun a hr => ?_
   refine oo [100, 101] [vB false, vB false] hr fun a hr => ?_
   refine onl (rfl : false = false) [102, 103, 104] [vI (wi ((at_ p0.g2 ((p0.l.length : Nat) : Int).toNat) - p0.m)), vB ((wi ((at_ p0.g2 ((p0.l.length : Nat) : Int).toNat) - p0.m)) != 2), vB ((wi ((at_ p0.g2 ((p0.l.length : Nat) : Int).toNat) - p0.m)) != 2)] hr fun a hr => ?_
   by_cases c35 : (wi ((at_ p0.g2 ((p0.l.length : Nat) : Int).toNat) - p0.m)) = 2
   ·
    replace H := ifT c35 H
    refine offl (bne_eq_false_iff_eq.mpr c35) [105, 106] hr fun a hr => ?_
    refine opv (wgt hr (c := false) rfl) hr (vB false) (rp_f (b := ((wi ((at_ p0.g2 ((p0.l.length : Nat) : Int).toNat) - p0.m)) != 2)) rfl (by kernel_rfl) (bne_eq_false_iff_eq.mpr c35) (by kernel_rfl)) fun a hr => ?_
    refine oo [108, 109] [vB false, vB false] hr fun a hr => ?_
    refine onl (rfl : false = false) [110, 111, 112] [vI (wi ((at_ p0.g2 (wi (((p0.l.length : Nat) : Int) + 1)).toNat) - p0.m)), vB ((wi ((at_ p0.g2 (wi (((p0.l.length : Nat) : Int) + 1)).toNat) - p0.m)) != 3), vB ((wi ((at_ p0.g2 (wi (((p0.l.length : Nat) : Int) + 1)).toNat) - p0.m)) != 3)] hr fun a hr => ?_
    by_cases c36 : (wi ((at_ p0.g2 (wi (((p0.l.length : Nat) : Int) + 1)).toNat) - p0.m)) = 3
    ·
     replace H := ifT c36 H
     refine offl (bne_eq_false_iff_eq.mpr c36) [113, 114] hr fun a hr => ?_
     refine opv (wgt hr (c := false) rfl) hr (vB false) (rp_f (b := ((wi ((at_ p0.g2 (wi (((p0.l.length : Nat) : Int) + 1)).toNat) - p0.m)) != 3)) rfl (by kernel_rfl) (bne_eq_false_iff_eq.mpr c36) (by kernel_rfl)) fun a hr => ?_
     refine o1 hr (vB false) fun a hr => ?_
     refine ln ?_
     refine cond_ff hr (b := false) rfl ?_
     refine wp_skip ?_
     refine then_normal ?_
     exact ⟨(), sinj H, hr.fj h⟩
    ·
     replace H := ifF c36 H
     refine onl (bne_iff_ne.mpr c36) [113, 114] [vI (wi ((at_ p0.g2 (wi (((p0.l.length : Nat) : Int) + 1)).toNat) - p0.m)), vB ((wi ((at_ p0.g2 (wi (((p0.l.length : Nat) : Int) + 1)).toNat) - p0.m)) != 5)] hr fun a hr => ?_
     refine opv (wgt hr (c := false) rfl) hr (vB ((wi ((at_ p0.g2 (wi (((p0.l.length : Nat) : Int) + 1)).toNat) - p0.m)) != 5)) (rp_t (b := ((wi ((at_ p0.g2 (wi (((p0.l.length : Nat) : Int) + 1)).toNat) - p0.m)) != 3)) rfl (by kernel_rfl) (bne_iff_ne.mpr c36) (by kernel_rfl)) fun a hr => ?_
     refine o1 hr (vB ((wi ((at_ p0.g2 (wi (((p0.l.length : Nat) : Int) + 1)).toNat) - p0.m)) != 5)) fun a hr => ?_
     refine ln ?_
     refine cN hr H (fun c37 H => ?_) fun c37 H => ?_
     ·
      refine wp_skip ?_
      refine then_normal ?_
      exact ⟨(), sinj H, hr.fj h⟩
     ·
      refine sr ?_
      refine o1 hr (vB false) fun a hr => ?_
      refine ln ?_
      refine wp_ret ?_
      refine then_ret ?_
      refine end_ret1 (v := vB false) rfl hr (by kernel_rfl) ?_
      replace H := jx0 H hK32
      replace H := ej1 H; subst H
      exact ⟨rfl, h.se 5 [1, 2, 3, 4]⟩
   ·
    replace H := ifF c35 H
    refine onl (bne_iff_ne.mpr c35) [105, 106] [vI (wi ((at_ p0.g2 ((p0.l.length : Nat) : Int).toNat) - p0.m)), vB ((wi ((at_ p0.g2 ((p0.l.length : Nat) : Int).toNat) - p0.m)) != 4)] hr fun a hr => ?_
    refine opv (wgt hr (c := false) rfl) hr (vB ((wi ((at_ p0.g2 ((p0.l.length : Nat) : Int).toNat) - p0.m)) != 4)) (rp_t (b := ((wi ((at_ p0.g2 ((p0.l.length : Nat) : Int).toNat) - p0.m)) != 2)) rfl (by kernel_rfl) (bne_iff_ne.mpr c35) (by kernel_rfl)) fun a hr => ?_
    refine oo [108, 109] [vB ((wi ((at_ p0.g2 ((p0.l.length : Nat) : Int).toNat) - p0.m)) != 4), vB ((wi ((at_ p0.g2 ((p0.l.length : Nat) : Int).toNat) - p0.m)) != 4)] hr fun a hr => ?_
    by_cases c38 : (wi ((at_ p0.g2 ((p0.l.length : Nat) : Int).toNat) - p0.m)) = 4
    ·
     replace H := ifT c38 H
     refine onl (bne_eq_false_iff_eq.mpr c38) [110, 111, 112] [vI (wi ((at_ p0.g2 (wi (((p0.l.length : Nat) : Int) + 1)).toNat) - p0.m)), vB ((wi ((at_ p0.g2 (wi (((p0.l.length : Nat) : Int) + 1)).toNat) - p0.m)) != 3), vB ((wi ((at_ p0.g2 (wi (((p0.l.length : Nat) : Int) + 1)).toNat) - p0.m)) != 3)] hr fun a hr => ?_
     by_cases c39 : (wi ((at_ p0.g2 (wi (((p0.l.length : Nat) : Int) + 1)).toNat) - p0.m)) = 3
     ·
      replace H := ifT c39 H
      refine offl (bne_eq_false_iff_eq.mpr c39) [113, 114] hr fun a hr => ?_
      refine opv (wgt hr (bne_eq_false_iff_eq.mpr c38)) hr (vB false) (rp_f (b := ((wi ((at_ p0.g2 (wi (((p0.l.length : Nat) : Int) + 1)).toNat) - p0.m)) != 3)) rfl (by kernel_rfl) (bne_eq_false_iff_eq.mpr c39) (by kernel_rfl)) fun a hr => ?_
      refine opv (wn rfl) hr (vB false) (rp_f (b := ((wi ((at_ p0.g2 ((p0.l.length : Nat) : Int).toNat) - p0.m)) != 4)) rfl (by kernel_rfl) (bne_eq_false_iff_eq.mpr c38) (by kernel_rfl)) fun a hr => ?_
      refine ln ?_
      refine cond_ff hr (b := false) rfl ?_
      refine wp_skip ?_
      refine then_normal ?_
      exact ⟨(), sinj H, hr.fj h⟩
     ·
      replace H := ifF c39 H
      refine onl (bne_iff_ne.mpr c39) [113, 114] [vI (wi ((at_ p0.g2 (wi (((p0.l.length : Nat) : Int) + 1)).toNat) - p0.m)), vB ((wi ((at_ p0.g2 (wi (((p0.l.length : Nat) : Int) + 1)).toNat) - p0.m)) != 5)] hr fun a hr => ?_
      refine opv (wgt hr (bne_eq_false_iff_eq.mpr c38)) hr (vB ((wi ((at_ p0.g2 (wi (((p0.l.length : Nat) : Int) + 1)).toNat) - p0.m)) != 5)) (rp_t (b := ((wi ((at_ p0.g2 (wi (((p0.l.length : Nat) : Int) + 1)).toNat) - p0.m)) != 3)) rfl (by kernel_rfl) (bne_iff_ne.mpr c39) (by kernel_rfl)) fun a hr => ?_
      refine opv (wn rfl) hr (vB ((wi ((at_ p0.g2 (wi (((p0.l.length : Nat) : Int) + 1)).toNat) - p0.m)) != 5)) (rp_f (b := ((wi ((at_ p0.g2 ((p0.l.length : Nat) : Int).toNat) - p0.m)) != 4)) rfl (by kernel_rfl) (bne_eq_false_iff_eq.mpr c38) (by kernel_rfl)) fun a hr => ?_
      refine ln ?_
      refine cN hr H (fun c40 H => ?_) fun c40 H => ?_
      ·
       refine wp_skip ?_
       refine then_normal ?_
       exact ⟨(), sinj H, hr.fj h⟩
      ·
       refine sr ?_
       refine o1 hr (vB false) fun a hr => ?_
       refine ln ?_
       refine wp_ret ?_
       refine then_ret ?_
       refine end_ret1 (v := vB false) rfl hr (by kernel_rfl) ?_
       replace H := jx0 H hK32
       replace H := ej1 H; subst H
       exact ⟨rfl, h.se 5 [1, 2, 3, 4]⟩
    ·
     replace H := ifF c38 H
     refine offl (bne_iff_ne.mpr c38) [110, 111, 112] hr fun a hr => ?_
     refine offu true [113, 114] hr fun a hr => ?_
     refine offl (bne_iff_ne.mpr c38) [115] hr fun a hr => ?_
     refine opv (wn rfl) hr (vB true) (rp_t (b := ((wi ((at_ p0.g2 ((p0.l.length : Nat) : Int).toNat) - p0.m)) != 4)) rfl (by kernel_rfl) (bne_iff_ne.mpr c38) (by kernel_rfl)) fun a hr => ?_
     refine ln ?_
     refine cond_tt hr (b := true) rfl ?_
     refine sr ?_
     refine o1 hr (vB false) fun a hr => ?_
     refine ln ?_
     refine wp_ret ?_
     refine then_ret ?_
     refine end_ret1 (v := vB false) rfl hr (by kernel_rfl) ?_
     replace H := jx0 H hK32
     replace H := ej1 H; subst H
     exact ⟨rfl, h.se 5 [1, 2, 3, 4]⟩
  ·
   replace H := ifF c34 H
   refine onl (bne_iff_ne.mpr c34) [94, 95] [vI (wi ((at_ p0.g1 ((p0.l.length : Nat) : Int).toNat) - p0.m)), vB ((wi ((at_ p0.g1 ((p0.l.length : Nat) : Int).toNat) - p0.m)) != 2)] hr fun a hr => ?_
   refine opv (wn rfl) hr (vB ((wi ((at_ p0.g1 ((p0.l.length : Nat) : Int).toNat) - p0.m)) != 2)) (rp_t (b := ((wi ((at_ p0.g1 ((p0.l.length : Nat) : Int).toNat) - p0.m)) != 1)) rfl (by kernel_rfl) (bne_iff_ne.mpr c34) (by kernel_rfl)) fun a hr => ?_
   refine o1 hr (vB ((wi ((at_ p0.g1 ((p0.l.length : Nat) : Int).toNat) - p0.m)) != 2)) fun a hr => ?_
   by_cases c41 : (wi ((at_ p0.g1 ((p0.l.length : Nat) : Int).toNat) - p0.m)) = 2
   ·
    replace H := ifT c41 H
    refine offl (bne_eq_false_iff_eq.mpr c41) [98, 99] hr fun a hr => ?_
    refine opv (wn rfl) hr (vB false) (rp_f (b := ((wi ((at_ p0.g1 ((p0.l.length : Nat) : Int).toNat) - p0.m)) != 2)) rfl (by kernel_rfl) (bne_eq_false_iff_eq.mpr c41) (by kernel_rfl)) fun a hr => ?_
    refine o1 hr (vB false) fun a hr => ?_
    refine onl (rfl : false = false) [102, 103, 104] [vI (wi ((at_ p0.g2 ((p0.l.length : Nat) : Int).toNat) - p0.m)), vB ((wi ((at_ p0.g2 ((p0.l.length : Nat) : Int).toNat) - p0.m)) != 2), vB ((wi ((at_ p0.g2 ((p0.l.length : Nat) : Int).toNat) - p0.m)) != 2)] hr fun a hr => ?_
    by_cases c42 : (wi ((at_ p0.g2 ((p0.l.length : Nat) : Int).toNat) - p0.m)) = 2
    ·
     replace H := ifT c42 H
     refine offl (bne_eq_false_iff_eq.mpr c42) [105, 106] hr fun a hr => ?_
     refine opv (wgt hr (c := false) rfl) hr (vB false) (rp_f (b := ((wi ((at_ p0.g2 ((p0.l.length : Nat) : Int).toNat) - p0.m)) != 2)) rfl (by kernel_rfl) (bne_eq_false_iff_eq.mpr c42) (by kernel_rfl)) fun a hr => ?_
     refine oo [108, 109] [vB false, vB false] hr fun a hr => ?_
     refine onl (rfl : false = false) [110, 111, 112] [vI (wi ((at_ p0.g2 (wi (((p0.l.length : Nat) : Int) + 1)).toNat) - p0.m)), vB ((wi ((at_ p0.g2 (wi (((p0.l.length : Nat) : Int) + 1)).toNat) - p0.m)) != 3), vB ((wi ((at_ p0.g2 (wi (((p0.l.length : Nat) : Int) + 1)).toNat) - p0.m)) != 3)] hr fun a hr => ?_
     by_cases c43 : (wi ((at_ p0.g2 (wi (((p0.l.length : Nat) : Int) + 1)).toNat) - p0.m)) = 3
     ·
      replace H := ifT c43 H
      refine offl (bne_eq_false_iff_eq.mpr c43) [113, 114] hr fun a hr => ?_
      refine opv (wgt hr (c := false) rfl) hr (vB false) (rp_f (b := ((wi ((at_ p0.g2 (wi (((p0.l.length : Nat) : Int) + 1)).toNat) - p0.m)) != 3)) rfl (by kernel_rfl) (bne_eq_false_iff_eq.mpr c43) (by kernel_rfl)) fun a hr => ?_
      refine o1 hr (vB false) fun a hr => ?_
      refine ln ?_
      refine cond_ff hr (b := false) rfl ?_
      refine wp_skip ?_
      refine then_normal ?_
      exact ⟨(), sinj H, hr.fj h⟩
     ·
      replace H := ifF c43 H
      refine onl (bne_iff_ne.mpr c43) [113, 114] [vI (wi ((at_ p0.g2 (wi (((p0.l.length : Nat) : Int) + 1)).toNat) - p0.m)), vB ((wi ((at_ p0.g2 (wi (((p0.l.length : Nat) : Int) + 1)).toNat) - p0.m)) != 5)] hr fun a hr => ?_
      refine opv (wgt hr (c := false) rfl) hr (vB ((wi ((at_ p0.g2 (wi (((p0.l.length : Nat) : Int) + 1)).toNat) - p0.m)) != 5)) (rp_t (b := ((wi ((at_ p0.g2 (wi (((p0.l.length : Nat) : Int) + 1)).toNat) - p0.m)) != 3)) rfl (by kernel_rfl) (bne_iff_ne.mpr c43) (by kernel_rfl)) fun a hr => ?_
      refine o1 hr (vB ((wi ((at_ p0.g2 (wi (((p0.l.length : Nat) : Int) + 1)).toNat) - p0.m)) != 5)) fun a hr => ?_
      refine ln ?_
      refine cN hr H (fun c44 H => ?_) fun c44 H => ?_
      ·
       refine wp_skip ?_
       refine then_normal ?_
       exact ⟨(), sinj H, hr.fj h⟩
      ·
       refine sr ?_
       refine o1 hr (vB false) fun a hr => ?_
       refine ln ?_
       refine wp_ret ?_
       refine then_ret ?_
       refine end_ret1 (v := vB false) rfl hr (by kernel_rfl) ?_
       replace H := jx0 H hK32
       replace H := ej1 H; subst H
       exact ⟨rfl, h.se 5 [1, 2, 3, 4]⟩
    ·
     replace H := ifF c42 H
     refine onl (bne_iff_ne.mpr c42) [105, 106] [vI (wi ((at_ p0.g2 ((p0.l.length : Nat) : Int).toNat) - p0.m)), vB ((wi ((at_ p0.g2 ((p0.l.length : Nat) : Int).toNat) - p0.m)) != 4)] hr fun a hr => ?_
     refine opv (wgt hr (c := false) rfl) hr (vB ((wi ((at_ p0.g2 ((p0.l.length : Nat) : Int).toNat) - p0.m)) != 4)) (rp_t (b := ((wi ((at_ p0.g2 ((p0.l.length : Nat) : Int).toNat) - p0.m)) != 2)) rfl (by kernel_rfl) (bne_iff_ne.mpr c42) (by kernel_rfl)) fun a hr => ?_
     refine oo [108, 109] [vB ((wi ((at_ p0.g2 ((p0.l.length : Nat) : Int).toNat) - p0.m)) != 4), vB ((wi ((at_ p0.g2 ((p0.l.length : Nat) : Int).toNat) - p0.m)) != 4)] hr fun a hr => ?_
     by_cases c45 : (wi ((at_ p0.g2 ((p0.l.length : Nat) : Int).toNat) - p0.m)) = 4
     ·
      replace H := ifT c45 H
      refine onl (bne_eq_false_iff_eq.mpr c45) [110, 111, 112] [vI (wi ((at_ p0.g2 (wi (((p0.l.length : Nat) : Int) + 1)).toNat) - p0.m)), vB ((wi ((at_ p0.g2 (wi (((p0.l.length : Nat) : Int) + 1)).toNat) - p0.m)) != 3), vB ((wi ((at_ p0.g2 (wi (((p0.l.length : Nat) : Int) + 1)).toNat) - p0.m)) != 3)] hr fun a hr => ?_
      by_cases c46 : (wi ((at_ p0.g2 (wi (((p0.l.length : Nat) : Int) + 1)).toNat) - p0.m)) = 3
      ·
       replace H := ifT c46 H
       refine offl (bne_eq_false_iff_eq.mpr c46) [113, 114] hr fun a hr => ?_
       refine opv (wgt hr (bne_eq_false_iff_eq.mpr c45)) hr (vB false) (rp_f (b := ((wi ((at_ p0.g2 (wi (((p0.l.length : Nat) : Int) + 1)).toNat) - p0.m)) != 3)) rfl (by kernel_rfl) (bne_eq_false_iff_eq.mpr c46) (by kernel_rfl)) fun a hr => ?_
       refine opv (wn rfl) hr (vB false) (rp_f (b := ((wi ((at_ p0.g2 ((p0.l.length : Nat) : Int).toNat) - p0.m)) != 4)) rfl (by kernel_rfl) (bne_eq_false_iff_eq.mpr c45) (by kernel_rfl)) fun a hr => ?_
       refine ln ?_
       refine cond_ff hr (b := false) rfl ?_
       refine wp_skip ?_
       refine then_normal ?_
       exact ⟨(), sinj H, hr.fj h⟩
      ·
       replace H := ifF c46 H
       refine onl (bne_iff_ne.mpr c46) [113, 114] [vI (wi ((at_ p0.g2 (wi (((p0.l.length : Nat) : Int) + 1)).toNat) - p0.m)), vB ((wi ((at_ p0.g2 (wi (((p0.l.length : Nat) : Int) + 1)).toNat) - p0.m)) != 5)] hr fun a hr => ?_
       refine opv (wgt hr (bne_eq_false_iff_eq.mpr c45)) hr (vB ((wi ((at_ p0.g2 (wi (((p0.l.length : Nat) : Int) + 1)).toNat) - p0.m)) != 5)) (rp_t (b := ((wi ((at_ p0.g2 (wi (((p0.l.length : Nat) : Int) + 1)).toNat) - p0.m)) != 3)) rfl (by kernel_rfl) (bne_iff_ne.mpr c46) (by kernel_rfl)) fun a hr => ?_
       refine opv (wn rfl) hr (vB ((wi ((at_ p0.g2 (wi (((p0.l.length : Nat) : Int) + 1)).toNat) - p0.m)) != 5)) (rp_f (b := ((wi ((at_ p0.g2 ((p0.l.length : Nat) : Int).toNat) - p0.m)) != 4)) rfl (by kernel_rfl) (bne_eq_false_iff_eq.mpr c45) (by kernel_rfl)) fun a hr => ?_
       refine ln ?_
       refine cN hr H (fun c47 H => ?_) fun c47 H => ?_
       ·
        refine wp_skip ?_
        refine then_normal ?_
        exact ⟨(), sinj H, hr.fj h⟩
       ·
        refine sr ?_
        refine o1 hr (vB false) fun a hr => ?_
        refine ln ?_
        refine wp_ret ?_
        refine then_ret ?_
        refine end_ret1 (v := vB false) rfl hr (by kernel_rfl) ?_
        replace H := jx0 H hK32
        replace H := ej1 H; subst H
        exact ⟨rfl, h.se 5 [1, 2, 3, 4]⟩
     ·
      replace H := ifF c45 H
      refine offl (bne_iff_ne.mpr c45) [110, 111, 112] hr fun a hr => ?_
      refine offu true [113, 114] hr fun a hr => ?_
      refine offl (bne_iff_ne.mpr c45) [115] hr fun a hr => ?_
      refine opv (wn rfl) hr (vB true) (rp_t (b := ((wi ((at_ p0.g2 ((p0.l.length : Nat) : Int).toNat) - p0.m)) != 4)) rfl (by kernel_rfl) (bne_iff_ne.mpr c45) (by kernel_rfl)) fun a hr => ?_
      refine ln ?_
      refine cond_tt hr (b := true) rfl ?_
      refine sr ?_
      refine o1 hr (vB false) fun a hr => ?_
      refine ln ?_
      refine wp_ret ?_
      refine then_ret ?_
      refine end_ret1 (v := vB false) rfl hr (by kernel_rfl) ?_
      replace H := jx0 H hK32
      replace H := ej1 H; subst H
      exact ⟨rfl, h.se 5 [1, 2, 3, 4]⟩
   ·
    replace H := ifF c41 H
    refine onl (bne_iff_ne.mpr c41) [98, 99] [vI (wi ((at_ p0.g1 ((p0.l.length : Nat) : Int).toNat) - p0.m)), vB ((wi ((at_ p0.g1 ((p0.l.length : Nat) : Int).toNat) - p0.m)) != 4)] hr fun a hr => ?_
    refine opv (wn rfl) hr (vB ((wi ((at_ p0.g1 ((p0.l.length : Nat) : Int).toNat) - p0.m)) != 4)) (rp_t (b := ((wi ((at_ p0.g1 ((p0.l.length : Nat) : Int).toNat) - p0.m)) != 2)) rfl (by kernel_rfl) (bne_iff_ne.mpr c41) (by kernel_rfl)) fun a hr => ?_
    refine o1 hr (vB ((wi ((at_ p0.g1 ((p0.l.length : Nat) : Int).toNat) - p0.m)) != 4)) fun a hr => ?_
    by_cases c48 : (wi ((at_ p0.g1 ((p0.l.length : Nat) : Int).toNat) - p0.m)) = 4
    ·
     replace H := ifT c48 H
     refine onl (bne_eq_false_iff_eq.mpr c48) [102, 103, 104] [vI (wi ((at_ p0.g2 ((p0.l.length : Nat) : Int).toNat) - p0.m)), vB ((wi ((at_ p0.g2 ((p0.l.length : Nat) : Int).toNat) - p0.m)) != 2), vB ((wi ((at_ p0.g2 ((p0.l.length : Nat) : Int).toNat) - p0.m)) != 2)] hr fun a hr => ?_
     by_cases c49 : (wi ((at_ p0.g2 ((p0.l.length : Nat) : Int).toNat) - p0.m)) = 2
     ·
      replace H := ifT c49 H
      refine offl (bne_eq_false_iff_eq.mpr c49) [105, 106] hr fun a hr => ?_
      refine opv (wgt hr (bne_eq_false_iff_eq.mpr c48)) hr (vB false) (rp_f (b := ((wi ((at_ p0.g2 ((p0.l.length : Nat) : Int).toNat) - p0.m)) != 2)) rfl (by kernel_rfl) (bne_eq_false_iff_eq.mpr c49) (by kernel_rfl)) fun a hr => ?_
      refine opv (wn rfl) hr (vB false) (rp_f (b := ((wi ((at_ p0.g1 ((p0.l.length : Nat) : Int).toNat) - p0.m)) != 4)) rfl (by kernel_rfl) (bne_eq_false_iff_eq.mpr c48) (by kernel_rfl)) fun a hr => ?_
      refine o1 hr (vB false) fun a hr => ?_
      refine onl (rfl : false = false) [110, 111, 112] [vI (wi ((at_ p0.g2 (wi (((p0.l.length : Nat) : Int) + 1)).toNat) - p0.m)), vB ((wi ((at_ p0.g2 (wi (((p0.l.length : Nat) : Int) + 1)).toNat) - p0.m)) != 3), vB ((wi ((at_ p0.g2 (wi (((p0.l.length : Nat) : Int) + 1)).toNat) - p0.m)) != 3)] hr fun a hr => ?_
      by_cases c50 : (wi ((at_ p0.g2 (wi (((p0.l.length : Nat) : Int) + 1)).toNat) - p0.m)) = 3
      ·
       replace H := ifT c50 H
       refine offl (bne_eq_false_iff_eq.mpr c50) [113, 114] hr fun a hr => ?_
       refine opv (wgt hr (c := false) rfl) hr (vB false) (rp_f (b := ((wi ((at_ p0.g2 (wi (((p0.l.length : Nat) : Int) + 1)).toNat) - p0.m)) != 3)) rfl (by kernel_rfl) (bne_eq_false_iff_eq.mpr c50) (by kernel_rfl)) fun a hr => ?_
       refine o1 hr (vB false) fun a hr => ?_
       refine ln ?_
       refine cond_ff hr (b := false) rfl ?_
       refine wp_skip ?_
       refine then_normal ?_
       exact ⟨(), sinj H, hr.fj h⟩
      ·
       replace H := ifF c50 H
       refine onl (bne_iff_ne.mpr c50) [113, 114] [vI (wi ((at_ p0.g2 (wi (((p0.l.length : Nat) : Int) + 1)).toNat) - p0.m)), vB ((wi ((at_ p0.g2 (wi (((p0.l.length : Nat) : Int) + 1)).toNat) - p0.m)) != 5)] hr fun a hr => ?_
       refine opv (wgt hr (c := false) rfl) hr (vB ((wi ((at_ p0.g2 (wi (((p0.l.length : Nat) : Int) + 1)).toNat) - p0.m)) != 5)) (rp_t (b := ((wi ((at_ p0.g2 (wi (((p0.l.length : Nat) : Int) + 1)).toNat) - p0.m)) != 3)) rfl (by kernel_rfl) (bne_iff_ne.mpr c50) (by kernel_rfl)) fun a hr => ?_
       refine o1 hr (vB ((wi ((at_ p0.g2 (wi (((p0.l.length : Nat) : Int) + 1)).toNat) - p0.m)) != 5)) fun a hr => ?_
       refine ln ?_
       refine cN hr H (fun c51 H => ?_) fun c51 H => ?_
       ·
        refine wp_skip ?_
        refine then_normal ?_
        exact ⟨(), sinj H, hr.fj h⟩
       ·
        refine sr ?_
        refine o1 hr (vB false) fun a hr => ?_
        refine ln ?_
        refine wp_ret ?_
        refine then_ret ?_
        refine end_ret1 (v := vB false) rfl hr (by kernel_rfl) ?_
        replace H := jx0 H hK32
        replace H := ej1 H; subst H
        exact ⟨rfl, h.se 5 [1, 2, 3, 4]⟩
     ·
      replace H := ifF c49 H
      refine onl (bne_iff_ne.mpr c49) [105, 106] [vI (wi ((at_ p0.g2 ((p0.l.length : Nat) : Int).toNat) - p0.m)), vB ((wi ((at_ p0.g2 ((p0.l.length : Nat) : Int).toNat) - p0.m)) != 4)] hr fun a hr => ?_
      refine opv (wgt hr (bne_eq_false_iff_eq.mpr c48)) hr (vB ((wi ((at_ p0.g2 ((p0.l.length : Nat) : Int).toNat) - p0.m)) != 4)) (rp_t (b := ((wi ((at_ p0.g2 ((p0.l.length : Nat) : Int).toNat) - p0.m)) != 2)) rfl (by kernel_rfl) (bne_iff_ne.mpr c49) (by kernel_rfl)) fun a hr => ?_
      refine opv (wn rfl) hr (vB ((wi ((at_ p0.g2 ((p0.l.length : Nat) : Int).toNat) - p0.m)) != 4)) (rp_f (b := ((wi ((at_ p0.g1 ((p0.l.length : Nat) : Int).toNat) - p0.m)) != 4)) rfl (by kernel_rfl) (bne_eq_false_iff_eq.mpr c48) (by kernel_rfl)) fun a hr => ?_
      refine o1 hr (vB ((wi ((at_ p0.g2 ((p0.l.length : Nat) : Int).toNat) - p0.m)) != 4)) fun a hr => ?_
      by_cases c52 : (wi ((at_ p0.g2 ((p0.l.length : Nat) : Int).toNat) - p0.m)) = 4
      ·
       replace H := ifT c52 H
       refine onl (bne_eq_false_iff_eq.mpr c52) [110, 111, 112] [vI (wi ((at_ p0.g2 (wi (((p0.l.length : Nat) : Int) + 1)).toNat) - p0.m)), vB ((wi ((at_ p0.g2 (wi (((p0.l.length : Nat) : Int) + 1)).toNat) - p0.m)) != 3), vB ((wi ((at_ p0.g2 (wi (((p0.l.length : Nat) : Int) + 1)).toNat) - p0.m)) != 3)] hr fun a hr => ?_
       by_cases c53 : (wi ((at_ p0.g2 (wi (((p0.l.length : Nat) : Int) + 1)).toNat) - p0.m)) = 3
       ·
        replace H := ifT c53 H
        refine offl (bne_eq_false_iff_eq.mpr c53) [113, 114] hr fun a hr => ?_
        refine opv (wgt hr (bne_eq_false_iff_eq.mpr c52)) hr (vB false) (rp_f (b := ((wi ((at_ p0.g2 (wi (((p0.l.length : Nat) : Int) + 1)).toNat) - p0.m)) != 3)) rfl (by kernel_rfl) (bne_eq_false_iff_eq.mpr c53) (by kernel_rfl)) fun a hr => ?_
        refine opv (wn rfl) hr (vB false) (rp_f (b := ((wi ((at_ p0.g2 ((p0.l.length : Nat) : Int).toNat) - p0.m)) != 4)) rfl (by kernel_rfl) (bne_eq_false_iff_eq.mpr c52) (by kernel_rfl)) fun a hr => ?_
        refine ln ?_
        refine cond_ff hr (b := false) rfl ?_
        refine wp_skip ?_
        refine then_normal ?_
        exact ⟨(), sinj H, hr.fj h⟩
       ·
        replace H := ifF c53 H
        refine onl (bne_iff_ne.mpr c53) [113, 114] [vI (wi ((at_ p0.g2 (wi (((p0.l.length : Nat) : Int) + 1)).toNat) - p0.m)), vB ((wi ((at_ p0.g2 (wi (((p0.l.length : Nat) : Int) + 1)).toNat) - p0.m)) != 5)] hr fun a hr => ?_
        refine opv (wgt hr (bne_eq_false_iff_eq.mpr c52)) hr (vB ((wi ((at_ p0.g2 (wi (((p0.l.length : Nat) : Int) + 1)).toNat) - p0.m)) != 5)) (rp_t (b := ((wi ((at_ p0.g2 (wi (((p0.l.length : Nat) : Int) + 1)).toNat) - p0.m)) != 3)) rfl (by kernel_rfl) (bne_iff_ne.mpr c53) (by kernel_rfl)) fun a hr => ?_
        refine opv (wn rfl) hr (vB ((wi ((at_ p0.g2 (wi (((p0.l.length : Nat) : Int) + 1)).toNat) - p0.m)) != 5)) (rp_f (b := ((wi ((at_ p0.g2 ((p0.l.length : Nat) : Int).toNat) - p0.m)) != 4)) rfl (by kernel_rfl) (bne_eq_false_iff_eq.mpr c52) (by kernel_rfl)) fun a hr => ?_
        refine ln ?_
        refine cN hr H (fun c54 H => ?_) fun c54 H => ?_
        ·
         refine wp_skip ?_
         refine then_normal ?_
         exact ⟨(), sinj H, hr.fj h⟩
        ·
         refine sr ?_
         refine o1 hr (vB false) fun a hr => ?_
         refine ln ?_
         refine wp_ret ?_
         refine then_ret ?_
         refine end_ret1 (v := vB false) rfl hr (by kernel_rfl) ?_
         replace H := jx0 H hK32
         replace H := ej1 H; subst H
         exact ⟨rfl, h.se 5 [1, 2, 3, 4]⟩
      ·
       replace H := ifF c52 H
       refine offl (bne_iff_ne.mpr c52) [110, 111, 112] hr fun a hr => ?_
       refine offu true [113, 114] hr fun a hr => ?_
       refine offl (bne_iff_ne.mpr c52) [115] hr fun a hr => ?_
       refine opv (wn rfl) hr (vB true) (rp_t (b := ((wi ((at_ p0.g2 ((p0.l.length : Nat) : Int).toNat) - p0.m)) != 4)) rfl (by kernel_rfl) (bne_iff_ne.mpr c52) (by kernel_rfl)) fun a hr => ?_
       refine ln ?_
       refine cond_tt hr (b := true) rfl ?_
       refine sr ?_
       refine o1 hr (vB false) fun a hr => ?_
       refine ln ?_
       refine wp_ret ?_
       refine then_ret ?_
       refine end_ret1 (v := vB false) rfl hr (by kernel_rfl) ?_
       replace H := jx0 H hK32
       replace H := ej1 H; subst H
       exact ⟨rfl, h.se 5 [1, 2, 3, 4]⟩
    ·
     replace H := ifF c48 H
     refine offl (bne_iff_ne.mpr c48) [102, 103, 104] hr fun a hr => ?_
     refine offu true [105, 106] hr fun a hr => ?_
     refine offl (bne_iff_ne.mpr c48) [107] hr fun a hr => ?_
     refine opv (wn rfl) hr (vB true) (rp_t (b := ((wi ((at_ p0.g1 ((p0.l.length : Nat) : Int).toNat) - p0.m)) != 4)) rfl (by kernel_rfl) (bne_iff_ne.mpr c48) (by kernel_rfl)) fun a hr => ?_
     refine o1 hr (vB true) fun a hr => ?_
     refine offl (rfl : true = true) [110, 111, 112] hr fun a hr => ?_
     refine offu true [113, 114] hr fun a hr => ?_
     refine offl (rfl : true = true) [115] hr fun a hr => ?_
     refine o1 hr (vB true) fun a hr => ?_
     refine ln ?_
     refine cond_tt hr (b := true) rfl ?_
     refine sr ?_
     refine o1 hr (vB false) fun a hr => ?_
     refine ln ?_
     refine wp_ret ?_
     refine then_ret ?_
     refine end_ret1 (v := vB false) rfl hr (by kernel_rfl) ?_
     replace H := jx0 H hK32
     replace H := ej1 H; subst H
     exact ⟨rfl, h.se 5 [1, 2, 3, 4]⟩
 clear h hr a; rintro _ a w ⟨rfl, j, hr, h⟩
 replace H := jk0 hK32
 refine wp_seq ?_
 obtain ⟨c55, H⟩ := gd H
 by_cases c56 : (at_ p0.g3 ((p0.l.length : Nat) : Int).toNat) = (wi (p0.m + 4))
 ·
  replace H := ifT c56 H
  obtain ⟨c57, H⟩ := gd H
  by_cases c58 : (at_ p0.g3 (wi (((p0.l.length : Nat) : Int) + 1)).toNat) = (wi (p0.m + 5))
  ·
   replace H := ifT c58 H
   obtain ⟨c59, H⟩ := gd H
   refine regL [(b9, 4, [.slice ca7 p0.g3.length cc8]), (blk ca7, ((p0.l.length : Nat) : Int).toNat * 1, [vI (at_ p0.g3 ((p0.l.length : Nat) : Int).toNat)]), (b9, 0, [vI p0.m]), (b9, 4, [.slice ca7 p0.g3.length cc8]), (blk ca7, (wi (((p0.l.length : Nat) : Int) + 1)).toNat * 1, [vI (at_ p0.g3 (wi (((p0.l.length : Nat) : Int) + 1)).toNat)]), (b9, 0, [vI p0.m]), (b9, 4, [.slice ca7 p0.g3.length cc8]), (blk ca7, (wi (((p0.l.length : Nat) : Int) + 2)).toNat * 1, [vI (at_ p0.g3 (wi (((p0.l.length : Nat) : Int) + 2)).toNat)]), (b9, 0, [vI p0.m])] [0, 3, 5, 7, 8, 10, 13, 14, 16, 18, 19, 22, 25, 26, 28, 30] 34 h (fun h => ⟨⟨h.cell 4 rfl, trivial⟩, ⟨(h.pick 4).row_cell encZ_i64_ok (f := 0) (at_ok c55) rfl, trivial⟩, ⟨h.cell 0 rfl, trivial⟩, ⟨h.cell 4 rfl, trivial⟩, ⟨(h.pick 4).row_cell encZ_i64_ok (f := 0) (at_ok c57) rfl, trivial⟩, ⟨h.cell 0 rfl, trivial⟩, ⟨h.cell 4 rfl, trivial⟩, ⟨(h.pick 4).row_cell encZ_i64_ok (f := 0) (at_ok c59) rfl, trivial⟩, ⟨h.cell 0 rfl, trivial⟩, trivial⟩) fun w h hd => ?_
   refine evs' hd 31 [(0, 117, pA b9 4), (2, 119, vI ((p0.l.length : Nat) : Int)), (5, 122, pA b9 0)] hr fun a hr => ?_
   refine elx hd 0 30 1 hr (wn rfl) rfl rfl fun a hr => ?_
   refine eon hd 29 3 rfl (wn rfl) hr (pA (blk ca7) (((p0.l.length : Nat) : Int).toNat * 1)) (hrun := fun w => ri_row (k := .i64) (E := 2) rfl (by kernel_rfl) (by kernel_rfl) (by kernel_rfl) (by kernel_rfl) (h.pick 4) c55) fun a hr => ?_
   refine elx hd 1 28 4 hr (wn rfl) rfl rfl fun a hr => ?_
   refine elx hd 2 27 6 hr (wn rfl) rfl rfl fun a hr => ?_
   refine evs' hd 24 [(7, 124, vI (wi (p0.m + 4))), (8, 125, vB ((at_ p0.g3 ((p0.l.length : Nat) : Int).toNat) == (wi (p0.m + 4)))), (9, 126, vB ((at_ p0.g3 ((p0.l.length : Nat) : Int).toNat) == (wi (p0.m + 4))))] hr fun a hr => ?_
   refine eon hd 23 10 rfl (wgt hr (beq_iff_eq.mpr c56)) hr (pA b9 4) fun a hr => ?_
   refine eon hd 22 12 rfl (wgt hr (beq_iff_eq.mpr c56)) hr (vI ((p0.l.length : Nat) : Int)) fun a hr => ?_
   refine eon hd 21 13 rfl (wgt hr (beq_iff_eq.mpr c56)) hr (vI (wi (((p0.l.length : Nat) : Int) + 1))) fun a hr => ?_
   refine eon hd 20 16 rfl (wgt hr (beq_iff_eq.mpr c56)) hr (pA b9 0) fun a hr => ?_
   refine elx hd 3 19 11 hr (wgt hr (beq_iff_eq.mpr c56)) rfl rfl fun a hr => ?_
   refine eon hd 18 14 rfl (wgt hr (beq_iff_eq.mpr c56)) hr (pA (blk ca7) ((wi (((p0.l.length : Nat) : Int) + 1)).toNat * 1)) (hrun := fun w => ri_row (k := .i64) (E := 2) rfl (by kernel_rfl) (by kernel_rfl) (by kernel_rfl) (by kernel_rfl) (h.pick 4) c57) fun a hr => ?_
   refine elx hd 4 17 15 hr (wgt hr (beq_iff_eq.mpr c56)) rfl rfl fun a hr => ?_
   refine elx hd 5 16 17 hr (wgt hr (beq_iff_eq.mpr c56)) rfl rfl fun a hr => ?_
   refine eon hd 15 18 rfl (wgt hr (beq_iff_eq.mpr c56)) hr (vI (wi (p0.m + 5))) fun a hr => ?_
   refine eon hd 14 19 rfl (wgt hr (beq_iff_eq.mpr c56)) hr (vB ((at_ p0.g3 (wi (((p0.l.length : Nat) : Int) + 1)).toNat) == (wi (p0.m + 5)))) fun a hr => ?_
   refine eon hd 13 20 rfl (wn rfl) hr (vB ((at_ p0.g3 (wi (((p0.l.length : Nat) : Int) + 1)).toNat) == (wi (p0.m + 5)))) (hrun := fun w => rp_t (b := ((at_ p0.g3 ((p0.l.length : Nat) : Int).toNat) == (wi (p0.m + 4)))) rfl (by kernel_rfl) (beq_iff_eq.mpr c56) (by kernel_rfl)) fun a hr => ?_
   refine evs' hd 12 [(21, 138, vB ((at_ p0.g3 (wi (((p0.l.length : Nat) : Int) + 1)).toNat) == (wi (p0.m + 5))))] hr fun a hr => ?_
   refine eon hd 11 22 rfl (wgt hr (beq_iff_eq.mpr c58)) hr (pA b9 4) fun a hr => ?_
   refine eon hd 10 24 rfl (wgt hr (beq_iff_eq.mpr c58)) hr (vI ((p0.l.length : Nat) : Int)) fun a hr => ?_
   refine eon hd 9 25 rfl (wgt hr (beq_iff_eq.mpr c58)) hr (vI (wi (((p0.l.length : Nat) : Int) + 2))) fun a hr => ?_
   refine eon hd 8 28 rfl (wgt hr (beq_iff_eq.mpr c58)) hr (pA b9 0) fun a hr => ?_
   refine elx hd 6 7 23 hr (wgt hr (beq_iff_eq.mpr c58)) rfl rfl fun a hr => ?_
   refine eon hd 6 26 rfl (wgt hr (beq_iff_eq.mpr c58)) hr (pA (blk ca7) ((wi (((p0.l.length : Nat) : Int) + 2)).toNat * 1)) (hrun := fun w => ri_row (k := .i64) (E := 2) rfl (by kernel_rfl) (by kernel_rfl) (by kernel_rfl) (by kernel_rfl) (h.pick 4) c59) fun a hr => ?_
   refine elx hd 7 5 27 hr (wgt hr (beq_iff_eq.mpr c58)) rfl rfl fun a hr => ?_
   refine elx hd 8 4 29 hr (wgt hr (beq_iff_eq.mpr c58)) rfl rfl fun a hr => ?_
   refine eon hd 3 30 rfl (wgt hr (beq_iff_eq.mpr c58)) hr (vI (wi (p0.m + 6))) fun a hr => ?_
   refine eon hd 2 31 rfl (wgt hr (beq_iff_eq.mpr c58)) hr (vB ((at_ p0.g3 (wi (((p0.l.length : Nat) : Int) + 2)).toNat) == (wi (p0.m + 6)))) fun a hr => ?_
   refine eon hd 1 32 rfl (wn rfl) hr (vB ((at_ p0.g3 (wi (((p0.l.length : Nat) : Int) + 2)).toNat) == (wi (p0.m + 6)))) (hrun := fun w => rp_t (b := ((at_ p0.g3 (wi (((p0.l.length : Nat) : Int) + 1)).toNat) == (wi (p0.m + 5)))) rfl (by kernel_rfl) (beq_iff_eq.mpr c58) (by kernel_rfl)) fun a hr => ?_
   refine evs' hd 0 [(33, 2, vB ((at_ p0.g3 (wi (((p0.l.length : Nat) : Int) + 2)).toNat) == (wi (p0.m + 6))))] hr fun a hr => ?_
   refine een ?_
   refine then_normal ?_
   refine wp_ret ?_
   refine end_ret1 (v := vB ((at_ p0.g3 (wi (((p0.l.length : Nat) : Int) + 2)).toNat) == (wi (p0.m + 6)))) rfl hr (by kernel_rfl) ?_
   replace H := ej1 H; subst H
   exact ⟨rfl, h.se 5 [1, 2, 3, 4]⟩
  ·
   replace H := ifF c58 H
   refine regL [(b9, 4, [.slice ca7 p0.g3.length cc8]), (blk ca7, ((p0.l.length : Nat) : Int).toNat * 1, [vI (at_ p0.g3 ((p0.l.length : Nat) : Int).toNat)]), (b9, 0, [vI p0.m]), (b9, 4, [.slice ca7 p0.g3.length cc8]), (blk ca7, (wi (((p0.l.length : Nat) : Int) + 1)).toNat * 1, [vI (at_ p0.g3 (wi (((p0.l.length : Nat) : Int) + 1)).toNat)]), (b9, 0, [vI p0.m])] [0, 3, 5, 7, 8, 10, 13, 14, 16, 18] 34 h (fun h => ⟨⟨h.cell 4 rfl, trivial⟩, ⟨(h.pick 4).row_cell encZ_i64_ok (f := 0) (at_ok c55) rfl, trivial⟩, ⟨h.cell 0 rfl, trivial⟩, ⟨h.cell 4 rfl, trivial⟩, ⟨(h.pick 4).row_cell encZ_i64_ok (f := 0) (at_ok c57) rfl, trivial⟩, ⟨h.cell 0 rfl, trivial⟩, trivial⟩) fun w h hd => ?_
   refine evs' hd 31 [(0, 117, pA b9 4), (2, 119, vI ((p0.l.length : Nat) : Int)), (5, 122, pA b9 0)] hr fun a hr => ?_
   refine elx hd 0 30 1 hr (wn rfl) rfl rfl fun a hr => ?_
   refine eon hd 29 3 rfl (wn rfl) hr (pA (blk ca7) (((p0.l.length : Nat) : Int).toNat * 1)) (hrun := fun w => ri_row (k := .i64) (E := 2) rfl (by kernel_rfl) (by kernel_rfl) (by kernel_rfl) (by kernel_rfl) (h.pick 4) c55) fun a hr => ?_
   refine elx hd 1 28 4 hr (wn rfl) rfl rfl fun a hr => ?_
   refine elx hd 2 27 6 hr (wn rfl) rfl rfl fun a hr => ?_
   refine evs' hd 24 [(7, 124, vI (wi (p0.m + 4))), (8, 125, vB ((at_ p0.g3 ((p0.l.length : Nat) : Int).toNat) == (wi (p0.m + 4)))), (9, 126, vB ((at_ p0.g3 ((p0.l.length : Nat) : Int).toNat) == (wi (p0.m + 4))))] hr fun a hr => ?_
   refine eon hd 23 10 rfl (wgt hr (beq_iff_eq.mpr c56)) hr (pA b9 4) fun a hr => ?_
   refine eon hd 22 12 rfl (wgt hr (beq_iff_eq.mpr c56)) hr (vI ((p0.l.length : Nat) : Int)) fun a hr => ?_
   refine eon hd 21 13 rfl (wgt hr (beq_iff_eq.mpr c56)) hr (vI (wi (((p0.l.length : Nat) : Int) + 1))) fun a hr => ?_
   refine eon hd 20 16 rfl (wgt hr (beq_iff_eq.mpr c56)) hr (pA b9 0) fun a hr => ?_
   refine elx hd 3 19 11 hr (wgt hr (beq_iff_eq.mpr c56)) rfl rfl fun a hr => ?_
   refine eon hd 18 14 rfl (wgt hr (beq_iff_eq.mpr c56)) hr (pA (blk ca7) ((wi (((p0.l.length : Nat) : Int) + 1)).toNat * 1)) (hrun := fun w => ri_row (k := .i64) (E := 2) rfl (by kernel_rfl) (by kernel_rfl) (by kernel_rfl) (by kernel_rfl) (h.pick 4) c57) fun a hr => ?_
   refine elx hd 4 17 15 hr (wgt hr (beq_iff_eq.mpr c56)) rfl rfl fun a hr => ?_
   refine elx hd 5 16 17 hr (wgt hr (beq_iff_eq.mpr c56)) rfl rfl fun a hr => ?_
   refine eon hd 15 18 rfl (wgt hr (beq_iff_eq.mpr c56)) hr (vI (wi (p0.m + 5))) fun a hr => ?_
   refine eon hd 14 19 rfl (wgt hr (beq_iff_eq.mpr c56)) hr (vB ((at_ p0.g3 (wi (((p0.l.length : Nat) : Int) + 1)).toNat) == (wi (p0.m + 5)))) fun a hr => ?_
   refine eon hd 13 20 rfl (wn rfl) hr (vB ((at_ p0.g3 (wi (((p0.l.length : Nat) : Int) + 1)).toNat) == (wi (p0.m + 5)))) (hrun := fun w => rp_t (b := ((at_ p0.g3 ((p0.l.length : Nat) : Int).toNat) == (wi (p0.m + 4)))) rfl (by kernel_rfl) (beq_iff_eq.mpr c56) (by kernel_rfl)) fun a hr => ?_
   refine evs' hd 12 [(21, 138, vB ((at_ p0.g3 (wi (((p0.l.length : Nat) : Int) + 1)).toNat) == (wi (p0.m + 5))))] hr fun a hr => ?_
   refine eof hd 11 22 rfl (wgt hr (beq_eq_false_iff_ne.mpr c58)) hr fun a hr => ?_
   refine eof hd 10 24 rfl (wgt hr (beq_eq_false_iff_ne.mpr c58)) hr fun a hr => ?_
   refine eof hd 9 25 rfl (wgt hr (beq_eq_false_iff_ne.mpr c58)) hr fun a hr => ?_
   refine eof hd 8 28 rfl (wgt hr (beq_eq_false_iff_ne.mpr c58)) hr fun a hr => ?_
   refine eof hd 7 23 rfl (wgt hr (beq_eq_false_iff_ne.mpr c58)) hr fun a hr => ?_
   refine eof hd 6 26 rfl (wgt hr (beq_eq_false_iff_ne.mpr c58)) hr fun a hr => ?_
   refine eof hd 5 27 rfl (wgt hr (beq_eq_false_iff_ne.mpr c58)) hr fun a hr => ?_
   refine eof hd 4 29 rfl (wgt hr (beq_eq_false_iff_ne.mpr c58)) hr fun a hr => ?_
   refine eof hd 3 30 rfl (wgt hr (beq_eq_false_iff_ne.mpr c58)) hr fun a hr => ?_
   refine eof hd 2 31 rfl (wgt hr (beq_eq_false_iff_ne.mpr c58)) hr fun a hr => ?_
   refine eon hd 1 32 rfl (wn rfl) hr (vB false) (hrun := fun w => rp_f (b := ((at_ p0.g3 (wi (((p0.l.length : Nat) : Int) + 1)).toNat) == (wi (p0.m + 5)))) rfl (by kernel_rfl) (beq_eq_false_iff_ne.mpr c58) (by kernel_rfl)) fun a hr => ?_
   refine evs' hd 0 [(33, 2, vB false)] hr fun a hr => ?_
   refine een ?_
   refine then_normal ?_
   refine wp_ret ?_
   refine end_ret1 (v := vB false) rfl hr (by kernel_rfl) ?_
   replace H := ej1 H; subst H
   exact ⟨rfl, h.se 5 [1, 2, 3, 4]⟩
 ·
  replace H := ifF c56 H
  refine regL [(b9, 4, [.slice ca7 p0.g3.length cc8]), (blk ca7, ((p0.l.length : Nat) : Int).toNat * 1, [vI (at_ p0.g3 ((p0.l.length : Nat) : Int).toNat)]), (b9, 0, [vI p0.m])] [0, 3, 5, 7] 34 h (fun h => ⟨⟨h.cell 4 rfl, trivial⟩, ⟨(h.pick 4).row_cell encZ_i64_ok (f := 0) (at_ok c55) rfl, trivial⟩, ⟨h.cell 0 rfl, trivial⟩, trivial⟩) fun w h hd => ?_
  refine evs' hd 31 [(0, 117, pA b9 4), (2, 119, vI ((p0.l.length : Nat) : Int)), (5, 122, pA b9 0)] hr fun a hr => ?_
  refine elx hd 0 30 1 hr (wn rfl) rfl rfl fun a hr => ?_
  refine eon hd 29 3 rfl (wn rfl) hr (pA (blk ca7) (((p0.l.length : Nat) : Int).toNat * 1)) (hrun := fun w => ri_row (k := .i64) (E := 2) rfl (by kernel_rfl) (by kernel_rfl) (by kernel_rfl) (by kernel_rfl) (h.pick 4) c55) fun a hr => ?_
  refine elx hd 1 28 4 hr (wn rfl) rfl rfl fun a hr => ?_
  refine elx hd 2 27 6 hr (wn rfl) rfl rfl fun a hr => ?_
  refine evs' hd 24 [(7, 124, vI (wi (p0.m + 4))), (8, 125, vB ((at_ p0.g3 ((p0.l.length : Nat) : Int).toNat) == (wi (p0.m + 4)))), (9, 126, vB ((at_ p0.g3 ((p0.l.length : Nat) : Int).toNat) == (wi (p0.m + 4))))] hr fun a hr => ?_
  refine eof hd 23 10 rfl (wgt hr (beq_eq_false_iff_ne.mpr c56)) hr fun a hr => ?_
  refine eof hd 22 12 rfl (wgt hr (beq_eq_false_iff_ne.mpr c56)) hr fun a hr => ?_
  refine eof hd 21 13 rfl (wgt hr (beq_eq_false_iff_ne.mpr c56)) hr fun a hr => ?_
  refine eof hd 20 16 rfl (wgt hr (beq_eq_false_iff_ne.mpr c56)) hr fun a hr => ?_
  refine eof hd 19 11 rfl (wgt hr (beq_eq_false_iff_ne.mpr c56)) hr fun a hr => ?_
  refine eof hd 18 14 rfl (wgt hr (beq_eq_false_iff_ne.mpr c56)) hr fun a hr => ?_
  refine eof hd 17 15 rfl (wgt hr (beq_eq_false_iff_ne.mpr c56)) hr fun a hr => ?_
  refine eof hd 16 17 rfl (wgt hr (beq_eq_false_iff_ne.mpr c56)) hr fun a hr => ?_
  refine eof hd 15 18 rfl (wgt hr (beq_eq_false_iff_ne.mpr c56)) hr fun a hr => ?_
  refine eof hd 14 19 rfl (wgt hr (beq_eq_false_iff_ne.mpr c56)) hr fun a hr => ?_
  refine eon hd 13 20 rfl (wn rfl) hr (vB false) (hrun := fun w => rp_f (b := ((at_ p0.g3 ((p0.l.length : Nat) : Int).toNat) == (wi (p0.m + 4)))) rfl (by kernel_rfl) (beq_eq_false_iff_ne.mpr c56) (by kernel_rfl)) fun a hr => ?_
  refine evs' hd 12 [(21, 138, vB false)] hr fun a hr => ?_
  refine eof hd 11 22 rfl (wgt hr (c := false) rfl) hr fun a hr => ?_
  refine eof hd 10 24 rfl (wgt hr (c := false) rfl) hr fun a hr => ?_
  refine eof hd 9 25 rfl (wgt hr (c := false) rfl) hr fun a hr => ?_
  refine eof hd 8 28 rfl (wgt hr (c := false) rfl) hr fun a hr => ?_
  refine eof hd 7 23 rfl (wgt hr (c := false) rfl) hr fun a hr => ?_
  refine eof hd 6 26 rfl (wgt hr (c := false) rfl) hr fun a hr => ?_
  refine eof hd 5 27 rfl (wgt hr (c := false) rfl) hr fun a hr => ?_
  refine eof hd 4 29 rfl (wgt hr (c := false) rfl) hr fun a hr => ?_
  refine eof hd 3 30 rfl (wgt hr (c := false) rfl) hr fun a hr => ?_
  refine eof hd 2 31 rfl (wgt hr (c := false) rfl) hr fun a hr => ?_
  refine evs' hd 0 [(32, 149, vB false), (33, 2, vB false)] hr fun a hr => ?_
  refine een ?_
  refine then_normal ?_
  refine wp_ret ?_
  refine end_ret1 (v := vB false) rfl hr (by kernel_rfl) ?_
  replace H := ej1 H; subst H
  exact ⟨rfl, h.se 5 [1, 2, 3, 4]⟩

def plunderlaw2_plain_l1 (K : Nat) (p0 : List T_api_Access) : Nat → (List Int) → Int → Option ((List Int))
  | 0, _, _ => none
  | k1 + 1, l3, g4 => (if g4 < ((p0.length : Nat) : Int) then if inr_ g4 p0.length then ob1 (plunderlaw2_entry (at_ p0 g4.toNat).A) (fun r7 => (if at_ p0 g4.toNat = r7 then if (l3.length + 1) * 8 ≤ 140737488355328 then (plunderlaw2_plain_l1 K p0 k1 (l3 ++ [(at_ p0 g4.toNat).A]) (wi (g4 + 1))) else none else if (l3.length + 1) * 8 ≤ 140737488355328 then (plunderlaw2_plain_l1 K p0 k1 (l3 ++ [0]) (wi (g4 + 1))) else none)) else none else some l3)
/-- plunder/plunderlaw2.plain -/
def plunderlaw2_plain (K : Nat) (p0 : List T_api_Access) : Option ((List Int)) :=
  (plunderlaw2_plain_l1 K p0 K ([] : List Int) 0)

theorem plunderlaw2_plain_ok {z w : World} {L : List HProp} {K : Nat} {p0 : List T_api_Access} {va0 : Option Addr} {vc0 : Nat} {r0 : List Int} (H : plunderlaw2_plain K p0 = some r0) (h : Fit z (sepL (L)) w) (hv0 : RdRow L 6 enc_T_api_Access va0 p0) :
    Calls Try.prog 93 #[.slice va0 p0.length vc0] w fun e w => ∃ car0_1 ccr0_2, e = .returned (.slice car0_1 r0.length ccr0_2) ∧ Fit z (sepL (ro2 car0_1 ccr0_2 r0 :: L)) w := by
 unfold plunderlaw2_plain at H
 refine enter Try.func93 rfl 29 rfl rfl [(0, .slice va0 p0.length vc0)] ⟨rfl, trivial⟩ ?_
 intro j a hr
 refine sr ?_
 refine o1 hr (.slice none 0 0) fun a hr => ?_
 refine ln ?_
 refine sr ?_
 refine o1 hr (.slice none 0 0) fun a hr => ?_
 refine ln ?_
 refine wp_seq ?_
 refine sr ?_
 refine o1 hr (vI 0) fun a hr => ?_
 refine ln ?_
 refine wp_block ?_
 replace h := h.row_nil (e := 2) (sz := 1) (enc := encZ_i64)
 refine loop_rule (β := Nat) id (fun m a w => ∃ ca1 : Option Addr, ∃ cc2 : Nat, ∃ l3 : List Int, ∃ g4 : Int, (plunderlaw2_plain_l1 K p0 m l3 g4) = some r0 ∧ ∃ j, Rep 29 (lk [(0, .slice va0 p0.length vc0), (3, .slice ca1 l3.length cc2), (4, vI g4)] j) a ∧ Fit z (sepL (ro2 ca1 cc2 l3 :: L)) w) K ⟨none, 0, ([] : List Int), 0, H, hr.fj h⟩ ?_
 clear h hr a H; rintro k1 a w ⟨ca1, cc2, l3, g4, H, j, hr, h⟩
 cases k1 with
 | zero => exact absurd H (by simp [plunderlaw2_plain_l1])
 | succ k1 =>
  rw [plunderlaw2_plain_l1] at H
  refine wp_seq ?_
  refine sr ?_
  refine oo [6, 7, 8, 9] [vI g4, .slice va0 p0.length vc0, vI ((p0.length : Nat) : Int), vB (decide (g4 < ((p0.length : Nat) : Int)))] hr fun a hr => ?_
  refine ln ?_
  refine cD hr H (fun c5 H => ?_) fun c5 H => ?_
  ·
   refine wp_skip ?_
   refine then_normal ?_
   refine wp_seq ?_
   refine wp_block ?_
   refine sr ?_
   obtain ⟨c6, H⟩ := gd H
   refine oo [12, 13] [.slice va0 p0.length vc0, vI g4] hr fun a hr => ?_
   refine opv (wn rfl) hr (pA (blk va0) (offs va0 + g4.toNat * 6)) (ri_rd (k := .i64) (E := 90) (cc := vc0) rfl (by kernel_rfl) (by kernel_rfl) rfl (by kernel_rfl) (by kernel_rfl) hv0 c6) fun a hr => ?_
   refine o1 hr (pA (blk va0) (offs va0 + g4.toNat * 6 + 3)) fun a hr => ?_
   refine ld (wn rfl) hr (vI (at_ p0 g4.toNat).A) (hv0.cell c6 (h.dn 1) 3 rfl) fun a hr => ?_
   refine o1 hr (vI (at_ p0 g4.toNat).A) fun a hr => ?_
   refine ln ?_
   refine wp_seq ?_
   refine wp_seq ?_
   obtain ⟨r7, e8, H⟩ := bd1 H
   refine regL [(blk va0, offs va0 + g4.toNat * 6, cl_T_api_Access (at_ p0 g4.toNat))] [2, 5] 7 h (fun h => ⟨⟨hv0.cell c6 (h.dn 1) 0 rfl, hv0.cell c6 (h.dn 1) 1 rfl, hv0.cell c6 (h.dn 1) 2 rfl, hv0.cell c6 (h.dn 1) 3 rfl, hv0.cell c6 (h.dn 1) 4 rfl, hv0.cell c6 (h.dn 1) 5 rfl, trivial⟩, trivial⟩) fun w h hd => ?_
   refine evs' hd 5 [(0, 17, .slice va0 p0.length vc0), (1, 18, vI g4)] hr fun a hr => ?_
   refine eon hd 4 2 rfl (wn rfl) hr (pA (blk va0) (offs va0 + g4.toNat * 6)) (hrun := fun w => ri_rd (k := .i64) (E := 90) (cc := vc0) rfl (by kernel_rfl) (by kernel_rfl) rfl (by kernel_rfl) (by kernel_rfl) hv0 c6) fun a hr => ?_
   refine evs' hd 3 [(4, 21, vI (at_ p0 g4.toNat).A)] hr fun a hr => ?_
   refine elm hd 0 2 3 hr (wn rfl) rfl rfl fun a hr => ?_
   refine eo1 5 rfl ?_
   have hc := plunderlaw2_entry_ok (H := e8) (h := h)
   refine cl (wn rfl) hr hc ?_; clear hc h
   rintro _ w ⟨rfl, h⟩; refine ⟨_, rfl, fun a hr => ?_⟩
   refine ln ?_
   refine eE ⟨⟨hv0.cell c6 (h.dn 1) 0 rfl, hv0.cell c6 (h.dn 1) 1 rfl, hv0.cell c6 (h.dn 1) 2 rfl, hv0.cell c6 (h.dn 1) 3 rfl, hv0.cell c6 (h.dn 1) 4 rfl, hv0.cell c6 (h.dn 1) 5 rfl, trivial⟩, trivial⟩ fun hd => ?_
   refine eon hd 0 6 rfl (wn rfl) hr (vB (!(decide (at_ p0 g4.toNat = r7)))) (hrun := fun w => rb (rne rfl (by kernel_rfl) (by kernel_rfl) (by kernel_rfl) (by kernel_rfl) (by kernel_rfl) (by kernel_rfl)) (congrArg (!·) (eq_T_api_Access (at_ p0 g4.toNat) r7))) fun a hr => ?_
   refine een ?_
   refine then_normal ?_
   refine cN hr H (fun c9 H => ?_) fun c9 H => ?_
   ·
    refine wp_skip ?_
    refine then_normal ?_
    refine wp_region_lit ?_
    refine oo [24, 25] [.slice ca1 l3.length cc2, vI (at_ p0 g4.toNat).A] hr fun a hr => ?_
    refine onew (wn rfl) hr h (fun b => .slice (some ⟨b, 0, none⟩) 1 1) (#[vI (at_ p0 g4.toNat).A]) 2 fun b10 w a h hr => ?_
    replace h := h.m1
    obtain ⟨c13, H⟩ := gd H
    refine op_append (n0 := l3.length) (c := 1) (bytes := 8) (wn rfl) rfl rfl hr rfl (by kernel_rfl) (by kernel_rfl) encZ_i64_ok (E := 2) (xs := l3) (by kernel_rfl) (by kernel_rfl) h (news := [(at_ p0 g4.toNat).A]) (m := 1) rfl ((h.pick 1).news rfl) c13 rfl fun ca11 cc12 w a h hr => ?_
    refine o1 hr (.slice ca11 (l3 ++ [(at_ p0 g4.toNat).A]).length cc12) fun a hr => ?_
    refine wpList_nil ?_
    refine blk_normal ?_
    refine then_normal ?_
    refine wp_region_lit ?_
    refine oo [10, 11, 4] [vI g4, vI (wi (g4 + 1)), vI (wi (g4 + 1))] hr fun a hr => ?_
    refine ln ?_
    exact ⟨_, ⟨ca11, cc12, (l3 ++ [(at_ p0 g4.toNat).A]), (wi (g4 + 1)), H, hr.fj (h.se 2 [0])⟩, Nat.lt_succ_self _⟩
   ·
    refine wp_region_lit ?_
    refine o1 hr (vI 0) fun a hr => ?_
    refine ln ?_
    refine wp_region_lit ?_
    refine oo [24, 25] [.slice ca1 l3.length cc2, vI 0] hr fun a hr => ?_
    refine onew (wn rfl) hr h (fun b => .slice (some ⟨b, 0, none⟩) 1 1) (#[vI 0]) 2 fun b14 w a h hr => ?_
    replace h := h.m1
    obtain ⟨c17, H⟩ := gd H
    refine op_append (n0 := l3.length) (c := 1) (bytes := 8) (wn rfl) rfl rfl hr rfl (by kernel_rfl) (by kernel_rfl) encZ_i64_ok (E := 2) (xs := l3) (by kernel_rfl) (by kernel_rfl) h (news := [0]) (m := 1) rfl ((h.pick 1).news rfl) c17 rfl fun ca15 cc16 w a h hr => ?_
    refine o1 hr (.slice ca15 (l3 ++ [0]).length cc16) fun a hr => ?_
    refine wpList_nil ?_
    refine blk_normal ?_
    refine then_normal ?_
    refine wp_region_lit ?_
    refine oo [10, 11, 4] [vI g4, vI (wi (g4 + 1)), vI (wi (g4 + 1))] hr fun a hr => ?_
    refine ln ?_
    exact ⟨_, ⟨ca15, cc16, (l3 ++ [0]), (wi (g4 + 1)), H, hr.fj (h.se 2 [0])⟩, Nat.lt_succ_self _⟩
  ·
   refine wp_exit ?_
   refine then_exit ?_
   refine then_exit ?_
   refine blk_here ?_
   refine then_normal ?_
   refine sr ?_
   refine oo [28, 2] [.slice ca1 l3.length cc2, .slice ca1 l3.length cc2] hr fun a hr => ?_
   refine ln ?_
   refine wp_ret ?_
   refine end_ret1 (v := .slice ca1 l3.length cc2) rfl hr (by kernel_rfl) ?_
   replace H := ej1 H; subst H
   exact ⟨ca1, cc2, rfl, h⟩

def plunderlaw2_book_stands_l1 (K : Nat) (p0 : T_plunderlaw2_book) : Nat → Int → Option ((Unit) ⊕ (Bool))
  | 0, _ => none
  | k1 + 1, g7 => (if g7 < ((p0.numberLists.length : Nat) : Int) then if inr_ g7 p0.numberLists.length then ob1 (plunderlaw2_stand K (at_ p0.numberLists g7.toNat)) (fun r20 => (if r20 = true then (plunderlaw2_book_stands_l1 K p0 k1 (wi (g7 + 1))) else some (.inr false))) else none else some (.inl ()))
def plunderlaw2_book_stands_l2 (K : Nat) (p0 : T_plunderlaw2_book) : Nat → Int → Option (Bool)
  | 0, _ => none
  | k2 + 1, g23 => (if g23 < ((p0.accessLists.length : Nat) : Int) then if inr_ g23 p0.accessLists.length then ob1 (plunderlaw2_plain K (at_ p0.accessLists g23.toNat).l) (fun r37 => ob1 (plunderlaw2_plain K (at_ p0.accessLists g23.toNat).g1) (fun r41 => ob1 (plunderlaw2_plain K (at_ p0.accessLists g23.toNat).g2) (fun r45 => ob1 (plunderlaw2_plain K (at_ p0.accessLists g23.toNat).g3) (fun r49 => ob1 (plunderlaw2_stand K (⟨(at_ p0.accessLists g23.toNat).m, r37, r41, r45, r49⟩ : T_plunderlaw2_kept)) (fun r53 => (if r53 = true then (plunderlaw2_book_stands_l2 K p0 k2 (wi (g23 + 1))) else some false)))))) else none else some true)
/-- (*plunder/plunderlaw2.book).stands -/
def plunderlaw2_book_stands (K : Nat) (p0 : T_plunderlaw2_book) : Option (Bool) :=
  jn0 ((plunderlaw2_book_stands_l1 K p0 K 0)) ((plunderlaw2_book_stands_l2 K p0 K 0))

theorem plunderlaw2_book_stands_ok {z w : World} {L : List HProp} {K : Nat} {p0 : T_plunderlaw2_book} {B0 cc2 cc4 : Nat} {ca1 ca3 : Option Addr} {r0 : Bool} (H : plunderlaw2_book_stands K p0 = some r0) (h : Fit z (sepL (ob78 B0 p0 ca1 cc2 ca3 cc4 :: rn139 ca1 cc2 p0.numberLists :: rn142 ca3 cc4 p0.accessLists :: L)) w)  :
    Calls Try.prog 45 #[pA B0 0] w fun e w => e = .returned (vB r0) ∧ Fit z (sepL (ob78 B0 p0 ca1 cc2 ca3 cc4 :: rn139 ca1 cc2 p0.numberLists :: rn142 ca3 cc4 p0.accessLists :: L)) w := by
 unfold plunderlaw2_book_stands at H
 refine enter Try.func45 rfl 57 rfl rfl [(0, pA B0 0)] ⟨rfl, trivial⟩ ?_
 intro j a hr
 refine sr ?_
 refine o1 hr (vB false) fun a hr => ?_
 refine ln ?_
 obtain ⟨o6, H, hK5⟩ := jd0 H
 refine cut_rule (β := Unit) (fun _ a w => .inl () = o6 ∧ ∃ j, Rep 57 (lk [(0, pA B0 0)] j) a ∧ Fit z (sepL (ob78 B0 p0 ca1 cc2 ca3 cc4 :: rn139 ca1 cc2 p0.numberLists :: rn142 ca3 cc4 p0.accessLists :: L)) w) ?_ ?_
 ·
  refine sr ?_
  refine o1 hr (vI 0) fun a hr => ?_
  refine ln ?_
  refine wp_block ?_
  refine loop_rule (β := Nat) id (fun m a w => ∃ g7 : Int, (plunderlaw2_book_stands_l1 K p0 m g7) = some o6 ∧ ∃ j, Rep 57 (lk [(0, pA B0 0), (3, vI g7)] j) a ∧ Fit z (sepL (ob78 B0 p0 ca1 cc2 ca3 cc4 :: rn139 ca1 cc2 p0.numberLists :: rn142 ca3 cc4 p0.accessLists :: L)) w) K ⟨0, H, hr.fj h⟩ ?_
  clear h hr a H; rintro k1 a w ⟨g7, H, j, hr, h⟩
  cases k1 with
  | zero => exact absurd H (by simp [plunderlaw2_book_stands_l1])
  | succ k1 =>
   rw [plunderlaw2_book_stands_l1] at H
   refine wp_seq ?_
   refine sr ?_
   refine oo [6, 7, 8, 9] [vI g7, pA B0 0, pA B0 0, pA B0 0] hr fun a hr => ?_
   refine ld (wn rfl) hr (.slice ca1 p0.numberLists.length cc2) (h.cell 0 rfl) fun a hr => ?_
   refine oo [11, 12] [vI ((p0.numberLists.length : Nat) : Int), vB (decide (g7 < ((p0.numberLists.length : Nat) : Int)))] hr fun a hr => ?_
   refine ln ?_
   refine cD hr H (fun c8 H => ?_) fun c8 H => ?_
   ·
    refine wp_skip ?_
    refine then_normal ?_
    refine wp_seq ?_
    refine wp_block ?_
    refine sr ?_
    refine oo [15, 16, 17] [pA B0 0, pA B0 0, pA B0 0] hr fun a hr => ?_
    refine ld (wn rfl) hr (.slice ca1 p0.numberLists.length cc2) (h.cell 0 rfl) fun a hr => ?_
    obtain ⟨c9, H⟩ := gd H
    refine o1 hr (vI g7) fun a hr => ?_
    refine opv (wn rfl) hr (pA (blk ca1) (g7.toNat * 5)) (ri_rowN (k := .i64) (E := 139) rfl (by kernel_rfl) (by kernel_rfl) (by kernel_rfl) (by kernel_rfl) (h.pick 1) c9) fun a hr => ?_
    obtain ⟨cs19, h⟩ := h.m1.rowN_take (at_ok c9)
    obtain ⟨ca10, cc11, ca12, cc13, ca14, cc15, ca16, cc17, e18, h⟩ := own_T_plunderlaw2_kept_op (h.m1); subst e18
    refine ldm (wn rfl) hr (.agg #[vI (at_ p0.numberLists g7.toNat).m, .slice ca10 (at_ p0.numberLists g7.toNat).l.length cc11, .slice ca12 (at_ p0.numberLists g7.toNat).g1.length cc13, .slice ca14 (at_ p0.numberLists g7.toNat).g2.length cc15, .slice ca16 (at_ p0.numberLists g7.toNat).g3.length cc17]) (cs := [vI (at_ p0.numberLists g7.toNat).m, .slice ca10 (at_ p0.numberLists g7.toNat).l.length cc11, .slice ca12 (at_ p0.numberLists g7.toNat).g1.length cc13, .slice ca14 (at_ p0.numberLists g7.toNat).g2.length cc15, .slice ca16 (at_ p0.numberLists g7.toNat).g3.length cc17]) ⟨(h.pick 4).rowH_cell (by decide) (f := 0) rfl, (h.pick 4).rowH_cell (by decide) (f := 1) rfl, (h.pick 4).rowH_cell (by decide) (f := 2) rfl, (h.pick 4).rowH_cell (by decide) (f := 3) rfl, (h.pick 4).rowH_cell (by decide) (f := 4) rfl, trivial⟩ fun a hr => ?_
    obtain ⟨r20, e21, H⟩ := bd1 H
    have hc := plunderlaw2_stand_ok (H := e21) (h := h)
    refine cl (wn rfl) hr hc ?_; clear hc h
    rintro _ w ⟨rfl, h⟩; refine ⟨_, rfl, fun a hr => ?_⟩
    refine o1 hr (vB (!r20)) fun a hr => ?_
    refine ln ?_
    refine cM hr H (fun c22 H => ?_) fun c22 H => ?_
    ·
     refine wp_skip ?_
     refine blk_normal ?_
     refine then_normal ?_
     refine wp_region_lit ?_
     refine oo [13, 14, 3] [vI g7, vI (wi (g7 + 1)), vI (wi (g7 + 1))] hr fun a hr => ?_
     refine ln ?_
     replace h := own_T_plunderlaw2_kept_sh (x := (at_ p0.numberLists g7.toNat)) h
     replace h := (h.m1).rowH_same
     exact ⟨_, ⟨(wi (g7 + 1)), H, hr.fj (h.se 3 [1, 0, 2])⟩, Nat.lt_succ_self _⟩
    ·
     refine sr ?_
     refine o1 hr (vB false) fun a hr => ?_
     refine ln ?_
     refine wp_ret ?_
     refine blk_ret ?_
     refine then_ret ?_
     refine then_ret ?_
     refine blk_ret ?_
     refine then_ret ?_
     refine end_ret1 (v := vB false) rfl hr (by kernel_rfl) ?_
     replace h := own_T_plunderlaw2_kept_sh (x := (at_ p0.numberLists g7.toNat)) h
     replace h := (h.m1).rowH_same
     replace H := jx0 H hK5
     replace H := ej1 H; subst H
     exact ⟨rfl, h.se 3 [1, 0, 2]⟩
   ·
    refine wp_exit ?_
    refine then_exit ?_
    refine then_exit ?_
    refine blk_here ?_
    refine then_normal ?_
    exact ⟨(), sinj H, hr.fj h⟩
 clear h hr a; rintro _ a w ⟨rfl, j, hr, h⟩
 replace H := jk0 hK5
 refine wp_seq ?_
 refine sr ?_
 refine o1 hr (vI 0) fun a hr => ?_
 refine ln ?_
 refine wp_block ?_
 refine loop_rule (β := Nat) id (fun m a w => ∃ g23 : Int, (plunderlaw2_book_stands_l2 K p0 m g23) = some r0 ∧ ∃ j, Rep 57 (lk [(0, pA B0 0), (4, vI g23)] j) a ∧ Fit z (sepL (ob78 B0 p0 ca1 cc2 ca3 cc4 :: rn139 ca1 cc2 p0.numberLists :: rn142 ca3 cc4 p0.accessLists :: L)) w) K ⟨0, H, hr.fj h⟩ ?_
 clear h hr a H; rintro k2 a w ⟨g23, H, j, hr, h⟩
 cases k2 with
 | zero => exact absurd H (by simp [plunderlaw2_book_stands_l2])
 | succ k2 =>
  rw [plunderlaw2_book_stands_l2] at H
  refine wp_seq ?_
  refine sr ?_
  refine oo [24, 25, 26, 27] [vI g23, pA B0 0, pA B0 0, pA B0 1] hr fun a hr => ?_
  refine ld (wn rfl) hr (.slice ca3 p0.accessLists.length cc4) (h.cell 1 rfl) fun a hr => ?_
  refine oo [29, 30] [vI ((p0.accessLists.length : Nat) : Int), vB (decide (g23 < ((p0.accessLists.length : Nat) : Int)))] hr fun a hr => ?_
  refine ln ?_
  refine cD hr H (fun c24 H => ?_) fun c24 H => ?_
  ·
   refine wp_skip ?_
   refine then_normal ?_
   refine wp_seq ?_
   refine wp_block ?_
   refine sr ?_
   refine oo [33, 34, 35] [pA B0 0, pA B0 0, pA B0 1] hr fun a hr => ?_
   refine ld (wn rfl) hr (.slice ca3 p0.accessLists.length cc4) (h.cell 1 rfl) fun a hr => ?_
   obtain ⟨c25, H⟩ := gd H
   refine o1 hr (vI g23) fun a hr => ?_
   refine opv (wn rfl) hr (pA (blk ca3) (g23.toNat * 5)) (ri_rowN (k := .i64) (E := 142) rfl (by kernel_rfl) (by kernel_rfl) (by kernel_rfl) (by kernel_rfl) (h.pick 2) c25) fun a hr => ?_
   obtain ⟨cs35, h⟩ := h.m2.rowN_take (at_ok c25)
   obtain ⟨ca26, cc27, ca28, cc29, ca30, cc31, ca32, cc33, e34, h⟩ := own_T_plunderlaw2_noted_op (h.m1); subst e34
   refine ldm (wn rfl) hr (.agg #[vI (at_ p0.accessLists g23.toNat).m, .slice ca26 (at_ p0.accessLists g23.toNat).l.length cc27, .slice ca28 (at_ p0.accessLists g23.toNat).g1.length cc29, .slice ca30 (at_ p0.accessLists g23.toNat).g2.length cc31, .slice ca32 (at_ p0.accessLists g23.toNat).g3.length cc33]) (cs := [vI (at_ p0.accessLists g23.toNat).m, .slice ca26 (at_ p0.accessLists g23.toNat).l.length cc27, .slice ca28 (at_ p0.accessLists g23.toNat).g1.length cc29, .slice ca30 (at_ p0.accessLists g23.toNat).g2.length cc31, .slice ca32 (at_ p0.accessLists g23.toNat).g3.length cc33]) ⟨(h.pick 4).rowH_cell (by decide) (f := 0) rfl, (h.pick 4).rowH_cell (by decide) (f := 1) rfl, (h.pick 4).rowH_cell (by decide) (f := 2) rfl, (h.pick 4).rowH_cell (by decide) (f := 3) rfl, (h.pick 4).rowH_cell (by decide) (f := 4) rfl, trivial⟩ fun a hr => ?_
   refine onew (wn rfl) hr h nb (#[vI 0, .slice none 0 0, .slice none 0 0, .slice none 0 0, .slice none 0 0]) 142 fun b36 w a h hr => ?_
   refine stm (wn rfl) hr h 0 ([vI (at_ p0.accessLists g23.toNat).m, .slice ca26 (at_ p0.accessLists g23.toNat).l.length cc27, .slice ca28 (at_ p0.accessLists g23.toNat).g1.length cc29, .slice ca30 (at_ p0.accessLists g23.toNat).g2.length cc31, .slice ca32 (at_ p0.accessLists g23.toNat).g3.length cc33]) (ob142 b36 (at_ p0.accessLists g23.toNat) ca26 cc27 ca28 cc29 ca30 cc31 ca32 cc33) fun w h => ?_
   refine ln ?_
   refine wp_seq ?_
   obtain ⟨r37, e38, H⟩ := bd1 H
   obtain ⟨r41, e42, H⟩ := bd1 H
   obtain ⟨r45, e46, H⟩ := bd1 H
   obtain ⟨r49, e50, H⟩ := bd1 H
   obtain ⟨r53, e54, H⟩ := bd1 H
   refine regL [(b36, 0, [vI (at_ p0.accessLists g23.toNat).m]), (b36, 1, [.slice ca26 (at_ p0.accessLists g23.toNat).l.length cc27]), (b36, 2, [.slice ca28 (at_ p0.accessLists g23.toNat).g1.length cc29]), (b36, 3, [.slice ca30 (at_ p0.accessLists g23.toNat).g2.length cc31]), (b36, 4, [.slice ca32 (at_ p0.accessLists g23.toNat).g3.length cc33])] [0, 2, 4, 5, 7, 8, 10, 11, 13] 17 h (fun h => ⟨⟨h.cell 0 rfl, trivial⟩, ⟨h.cell 1 rfl, trivial⟩, ⟨h.cell 2 rfl, trivial⟩, ⟨h.cell 3 rfl, trivial⟩, ⟨h.cell 4 rfl, trivial⟩, trivial⟩) fun w h hd => ?_
   refine evs' hd 12 [(0, 40, pA b36 0), (2, 42, pA b36 1), (5, 45, pA b36 2), (8, 48, pA b36 3), (11, 51, pA b36 4)] hr fun a hr => ?_
   refine elx hd 0 11 1 hr (wn rfl) rfl rfl fun a hr => ?_
   refine elx hd 1 10 3 hr (wn rfl) rfl rfl fun a hr => ?_
   refine elx hd 2 9 6 hr (wn rfl) rfl rfl fun a hr => ?_
   refine elx hd 3 8 9 hr (wn rfl) rfl rfl fun a hr => ?_
   refine elx hd 4 7 12 hr (wn rfl) rfl rfl fun a hr => ?_
   refine eo1 4 rfl ?_
   have hc := plunderlaw2_plain_ok (va0 := ca26) (vc0 := cc27) (hv0 := (RdRow.of_row enc_T_api_Access_ok (h.pick 1) (fun h => (h.pick 1)))) (H := e38) (h := h)
   refine cl (wn rfl) hr hc ?_; clear hc h
   rintro _ w ⟨car39, ccr40, rfl, h⟩; refine ⟨_, rfl, fun a hr => ?_⟩
   refine ln ?_
   refine eE ⟨⟨(h.pick 1).cell 0 rfl, trivial⟩, ⟨(h.pick 1).cell 1 rfl, trivial⟩, ⟨(h.pick 1).cell 2 rfl, trivial⟩, ⟨(h.pick 1).cell 3 rfl, trivial⟩, ⟨(h.pick 1).cell 4 rfl, trivial⟩, trivial⟩ fun hd => ?_
   refine eo1 7 rfl ?_
   have hc := plunderlaw2_plain_ok (va0 := ca28) (vc0 := cc29) (hv0 := (RdRow.of_row enc_T_api_Access_ok (h.pick 3) (fun h => (h.pick 3)))) (H := e42) (h := h)
   refine cl (wn rfl) hr hc ?_; clear hc h
   rintro _ w ⟨car43, ccr44, rfl, h⟩; refine ⟨_, rfl, fun a hr => ?_⟩
   refine ln ?_
   refine eE ⟨⟨(h.pick 2).cell 0 rfl, trivial⟩, ⟨(h.pick 2).cell 1 rfl, trivial⟩, ⟨(h.pick 2).cell 2 rfl, trivial⟩, ⟨(h.pick 2).cell 3 rfl, trivial⟩, ⟨(h.pick 2).cell 4 rfl, trivial⟩, trivial⟩ fun hd => ?_
   refine eo1 10 rfl ?_
   have hc := plunderlaw2_plain_ok (va0 := ca30) (vc0 := cc31) (hv0 := (RdRow.of_row enc_T_api_Access_ok (h.pick 5) (fun h => (h.pick 5)))) (H := e46) (h := h)
   refine cl (wn rfl) hr hc ?_; clear hc h
   rintro _ w ⟨car47, ccr48, rfl, h⟩; refine ⟨_, rfl, fun a hr => ?_⟩
   refine ln ?_
   refine eE ⟨⟨(h.pick 3).cell 0 rfl, trivial⟩, ⟨(h.pick 3).cell 1 rfl, trivial⟩, ⟨(h.pick 3).cell 2 rfl, trivial⟩, ⟨(h.pick 3).cell 3 rfl, trivial⟩, ⟨(h.pick 3).cell 4 rfl, trivial⟩, trivial⟩ fun hd => ?_
   refine eo1 13 rfl ?_
   have hc := plunderlaw2_plain_ok (va0 := ca32) (vc0 := cc33) (hv0 := (RdRow.of_row enc_T_api_Access_ok (h.pick 7) (fun h => (h.pick 7)))) (H := e50) (h := h)
   refine cl (wn rfl) hr hc ?_; clear hc h
   rintro _ w ⟨car51, ccr52, rfl, h⟩; refine ⟨_, rfl, fun a hr => ?_⟩
   refine ln ?_
   refine eE ⟨⟨(h.pick 4).cell 0 rfl, trivial⟩, ⟨(h.pick 4).cell 1 rfl, trivial⟩, ⟨(h.pick 4).cell 2 rfl, trivial⟩, ⟨(h.pick 4).cell 3 rfl, trivial⟩, ⟨(h.pick 4).cell 4 rfl, trivial⟩, trivial⟩ fun hd => ?_
   refine evs' hd 2 [(14, 54, .agg #[vI (at_ p0.accessLists g23.toNat).m, .slice car39 r37.length ccr40, .slice car43 r41.length ccr44, .slice car47 r45.length ccr48, .slice car51 r49.length ccr52])] hr fun a hr => ?_
   refine eo1 15 rfl ?_
   replace h := h.m1.m2.m3
   have hc := plunderlaw2_stand_ok (H := e54) (h := h)
   refine cl (wn rfl) hr hc ?_; clear hc h
   rintro _ w ⟨rfl, h⟩; refine ⟨_, rfl, fun a hr => ?_⟩
   refine ln ?_
   refine xE ?_
   refine evs 0 16 rfl (wn rfl) hr (vB (!r53)) fun a hr => ?_
   refine een ?_
   refine then_normal ?_
   refine cM hr H (fun c55 H => ?_) fun c55 H => ?_
   ·
    refine wp_skip ?_
    refine blk_normal ?_
    refine then_normal ?_
    refine wp_region_lit ?_
    refine oo [31, 32, 4] [vI g23, vI (wi (g23 + 1)), vI (wi (g23 + 1))] hr fun a hr => ?_
    refine ln ?_
    replace h := h.m9.m9.m9.m9.m9
    replace h := own_T_plunderlaw2_noted_sh (x := (at_ p0.accessLists g23.toNat)) h
    replace h := (h.m1).rowH_same
    exact ⟨_, ⟨(wi (g23 + 1)), H, hr.fj (h.se 8 [6, 7, 0])⟩, Nat.lt_succ_self _⟩
   ·
    refine sr ?_
    refine o1 hr (vB false) fun a hr => ?_
    refine ln ?_
    refine wp_ret ?_
    refine blk_ret ?_
    refine then_ret ?_
    refine then_ret ?_
    refine blk_ret ?_
    refine then_ret ?_
    refine end_ret1 (v := vB false) rfl hr (by kernel_rfl) ?_
    replace h := h.m9.m9.m9.m9.m9
    replace h := own_T_plunderlaw2_noted_sh (x := (at_ p0.accessLists g23.toNat)) h
    replace h := (h.m1).rowH_same
    replace H := ej1 H; subst H
    exact ⟨rfl, h.se 8 [6, 7, 0]⟩
  ·
   refine wp_exit ?_
   refine then_exit ?_
   refine then_exit ?_
   refine blk_here ?_
   refine then_normal ?_
   refine sr ?_
   refine o1 hr (vB true) fun a hr => ?_
   refine ln ?_
   refine wp_ret ?_
   refine end_ret1 (v := vB true) rfl hr (by kernel_rfl) ?_
   replace H := ej1 H; subst H
   exact ⟨rfl, h⟩

/-- (*plunder/cells.Arena).outside -/
def cells_Arena_outside_nil (p1 : Int) : Option (Bool) :=
  some true

theorem cells_Arena_outside_nil_ok {z w : World} {L : List HProp} {p1 : Int} {r0 : Bool} (H : cells_Arena_outside_nil p1 = some r0) (h : Fit z (sepL (L)) w)  :
    Calls Try.prog 65 #[pN, vI p1] w fun e w => e = .returned (vB r0) ∧ Fit z (sepL (L)) w := by
 unfold cells_Arena_outside_nil at H
 refine enter Try.func65 rfl 15 rfl rfl [(0, pN), (1, vI p1)] ⟨rfl, rfl, trivial⟩ ?_
 intro j a hr
 refine sr ?_
 refine o1 hr (vB false) fun a hr => ?_
 refine ln ?_
 refine sr ?_
 refine oo [5, 6, 7] [pN, vB true, vB true] hr fun a hr => ?_
 refine offl (rfl : true = true) [8, 9, 10, 11, 12, 13] hr fun a hr => ?_
 refine oo [14, 4] [vB true, vB true] hr fun a hr => ?_
 refine ln ?_
 refine wp_ret ?_
 refine end_ret1 (v := vB true) rfl hr (by kernel_rfl) ?_
 replace H := ej1 H; subst H
 exact ⟨rfl, h⟩

/-- (*plunder/cells.Arena).Load -/
def cells_Arena_Load_nil (p1 : Int) : Option (Int × Int) :=
  ob1 (cells_Arena_outside_nil p1) (fun r1 => (if r1 = true then some (0, 20) else none))

theorem cells_Arena_Load_nil_ok {z w : World} {L : List HProp} {p1 r0 r1 : Int} (H : cells_Arena_Load_nil p1 = some (r0, r1)) (h : Fit z (sepL (L)) w)  :
    Calls Try.prog 66 #[pN, vI p1] w fun e w => e = .returned (.tuple #[vI r0, vI r1]) ∧ Fit z (sepL (L)) w := by
 unfold cells_Arena_Load_nil at H
 refine enter Try.func66 rfl 22 rfl rfl [(0, pN), (1, vI p1)] ⟨rfl, rfl, trivial⟩ ?_
 intro j a hr
 refine sr ?_
 refine oo [4, 5] [vI 0, vI 0] hr fun a hr => ?_
 refine ln ?_
 refine wp_seq ?_
 refine sr ?_
 obtain ⟨r1, e2, H⟩ := bd1 H
 refine oo [7, 8] [pN, vI p1] hr fun a hr => ?_
 have hc := cells_Arena_outside_nil_ok (H := e2) (h := h)
 refine cl (wn rfl) hr hc ?_; clear hc h
 rintro _ w ⟨rfl, h⟩; refine ⟨_, rfl, fun a hr => ?_⟩
 refine ln ?_
 refine cV hr H (fun c3 H => ?_) fun c3 H => ?_
 ·
  refine sr ?_
  refine oo [4, 5] [vI 0, vI 20] hr fun a hr => ?_
  refine ln ?_
  refine wp_ret ?_
  refine then_ret ?_
  refine end_ret2 (v := vI 0) (v' := vI 20) rfl hr (by kernel_rfl) (by kernel_rfl) ?_
  obtain ⟨rfl, rfl⟩ := ej2 H
  exact ⟨rfl, h⟩
 ·
  refine wp_skip ?_
  refine then_normal ?_
  refine sr ?_
  cases H

/-- (*plunder/cells.Arena).Store -/
def cells_Arena_Store_nil (p1 : Int) (p2 : Int) : Option (Int) :=
  ob1 (cells_Arena_outside_nil p1) (fun r1 => (if r1 = true then some 20 else none))

theorem cells_Arena_Store_nil_ok {z w : World} {L : List HProp} {p1 p2 r0 : Int} (H : cells_Arena_Store_nil p1 p2 = some r0) (h : Fit z (sepL (L)) w)  :
    Calls Try.prog 21 #[pN, vI p1, vI p2] w fun e w => e = .returned (vI r0) ∧ Fit z (sepL (L)) w := by
 unfold cells_Arena_Store_nil at H
 refine enter Try.func21 rfl 21 rfl rfl [(0, pN), (1, vI p1), (2, vI p2)] ⟨rfl, rfl, rfl, trivial⟩ ?_
 intro j a hr
 refine sr ?_
 refine o1 hr (vI 0) fun a hr => ?_
 refine ln ?_
 refine wp_seq ?_
 refine sr ?_
 obtain ⟨r1, e2, H⟩ := bd1 H
 refine oo [7, 8] [pN, vI p1] hr fun a hr => ?_
 have hc := cells_Arena_outside_nil_ok (H := e2) (h := h)
 refine cl (wn rfl) hr hc ?_; clear hc h
 rintro _ w ⟨rfl, h⟩; refine ⟨_, rfl, fun a hr => ?_⟩
 refine ln ?_
 refine cV hr H (fun c3 H => ?_) fun c3 H => ?_
 ·
  refine sr ?_
  refine o1 hr (vI 20) fun a hr => ?_
  refine ln ?_
  refine wp_ret ?_
  refine then_ret ?_
  refine end_ret1 (v := vI 20) rfl hr (by kernel_rfl) ?_
  replace H := ej1 H; subst H
  exact ⟨rfl, h⟩
 ·
  refine wp_skip ?_
  refine then_normal ?_
  refine sr ?_
  cases H

/-- (*plunder/cells.Arena).CAS -/
def cells_Arena_CAS_nil (p1 : Int) (p2 : Int) (p3 : Int) : Option (Bool × Int) :=
  ob1 (cells_Arena_outside_nil p1) (fun r1 => (if r1 = true then some (false, 20) else none))

theorem cells_Arena_CAS_nil_ok {z w : World} {L : List HProp} {p1 p2 p3 r1 : Int} {r0 : Bool} (H : cells_Arena_CAS_nil p1 p2 p3 = some (r0, r1)) (h : Fit z (sepL (L)) w)  :
    Calls Try.prog 67 #[pN, vI p1, vI p2, vI p3] w fun e w => e = .returned (.tuple #[vB r0, vI r1]) ∧ Fit z (sepL (L)) w := by
 unfold cells_Arena_CAS_nil at H
 refine enter Try.func67 rfl 38 rfl rfl [(0, pN), (1, vI p1), (2, vI p2), (3, vI p3)] ⟨rfl, rfl, rfl, rfl, trivial⟩ ?_
 intro j a hr
 refine sr ?_
 refine oo [8, 9] [vB false, vI 0] hr fun a hr => ?_
 refine ln ?_
 refine wp_seq ?_
 refine sr ?_
 obtain ⟨r1, e2, H⟩ := bd1 H
 refine oo [11, 12] [pN, vI p1] hr fun a hr => ?_
 have hc := cells_Arena_outside_nil_ok (H := e2) (h := h)
 refine cl (wn rfl) hr hc ?_; clear hc h
 rintro _ w ⟨rfl, h⟩; refine ⟨_, rfl, fun a hr => ?_⟩
 refine ln ?_
 refine cV hr H (fun c3 H => ?_) fun c3 H => ?_
 ·
  refine sr ?_
  refine oo [8, 9] [vB false, vI 20] hr fun a hr => ?_
  refine ln ?_
  refine wp_ret ?_
  refine then_ret ?_
  refine end_ret2 (v := vB false) (v' := vI 20) rfl hr (by kernel_rfl) (by kernel_rfl) ?_
  obtain ⟨rfl, rfl⟩ := ej2 H
  exact ⟨rfl, h⟩
 ·
  refine wp_skip ?_
  refine then_normal ?_
  refine sr ?_
  cases H

/-- (*plunder/cells.Arena).Add -/
def cells_Arena_Add_nil (p1 : Int) (p2 : Int) : Option (Int × Int) :=
  ob1 (cells_Arena_outside_nil p1) (fun r1 => (if r1 = true then some (0, 20) else none))

theorem cells_Arena_Add_nil_ok {z w : World} {L : List HProp} {p1 p2 r0 r1 : Int} (H : cells_Arena_Add_nil p1 p2 = some (r0, r1)) (h : Fit z (sepL (L)) w)  :
    Calls Try.prog 68 #[pN, vI p1, vI p2] w fun e w => e = .returned (.tuple #[vI r0, vI r1]) ∧ Fit z (sepL (L)) w := by
 unfold cells_Arena_Add_nil at H
 refine enter Try.func68 rfl 39 rfl rfl [(0, pN), (1, vI p1), (2, vI p2)] ⟨rfl, rfl, rfl, trivial⟩ ?_
 intro j a hr
 refine sr ?_
 refine oo [6, 7] [vI 0, vI 0] hr fun a hr => ?_
 refine ln ?_
 refine wp_seq ?_
 refine sr ?_
 obtain ⟨r1, e2, H⟩ := bd1 H
 refine oo [8, 9] [pN, vI p1] hr fun a hr => ?_
 have hc := cells_Arena_outside_nil_ok (H := e2) (h := h)
 refine cl (wn rfl) hr hc ?_; clear hc h
 rintro _ w ⟨rfl, h⟩; refine ⟨_, rfl, fun a hr => ?_⟩
 refine ln ?_
 refine cV hr H (fun c3 H => ?_) fun c3 H => ?_
 ·
  refine sr ?_
  refine oo [6, 7] [vI 0, vI 20] hr fun a hr => ?_
  refine ln ?_
  refine wp_ret ?_
  refine then_ret ?_
  refine end_ret2 (v := vI 0) (v' := vI 20) rfl hr (by kernel_rfl) (by kernel_rfl) ?_
  obtain ⟨rfl, rfl⟩ := ej2 H
  exact ⟨rfl, h⟩
 ·
  refine wp_skip ?_
  refine then_normal ?_
  refine sr ?_
  cases H

/-- (*plunder/cells.ledger).refuse -/
def cells_ledger_refuse_nil (p1 : Int) : Option (Int) :=
  (if p1 < 1 then some 21 else some 22)

theorem cells_ledger_refuse_nil_ok {z w : World} {L : List HProp} {p1 r0 : Int} (H : cells_ledger_refuse_nil p1 = some r0) (h : Fit z (sepL (L)) w)  :
    Calls Try.prog 62 #[pN, vI p1] w fun e w => e = .returned (vI r0) ∧ Fit z (sepL (L)) w := by
 unfold cells_ledger_refuse_nil at H
 refine enter Try.func62 rfl 22 rfl rfl [(0, pN), (1, vI p1)] ⟨rfl, rfl, trivial⟩ ?_
 intro j a hr
 refine sr ?_
 refine o1 hr (vI 0) fun a hr => ?_
 refine ln ?_
 refine wp_seq ?_
 refine sr ?_
 refine oo [5, 6] [vI p1, vB (decide (p1 < 1))] hr fun a hr => ?_
 refine ln ?_
 refine cD hr H (fun c1 H => ?_) fun c1 H => ?_
 ·
  refine sr ?_
  refine o1 hr (vI 21) fun a hr => ?_
  refine ln ?_
  refine wp_ret ?_
  refine then_ret ?_
  refine end_ret1 (v := vI 21) rfl hr (by kernel_rfl) ?_
  replace H := ej1 H; subst H
  exact ⟨rfl, h⟩
 ·
  refine wp_skip ?_
  refine then_normal ?_
  refine wp_seq ?_
  refine wp_seq ?_
  refine regL [] [] 15 h (fun _ => trivial) fun w h hd => ?_
  refine evs' hd 12 [(0, 7, pN), (1, 8, vB true), (2, 9, vB true)] hr fun a hr => ?_
  refine eof hd 11 3 rfl (wgt hr (c := true) rfl) hr fun a hr => ?_
  refine eof hd 10 4 rfl (wgt hr (c := true) rfl) hr fun a hr => ?_
  refine eof hd 9 5 rfl (wgt hr (c := true) rfl) hr fun a hr => ?_
  refine eof hd 8 6 rfl (wgt hr (c := true) rfl) hr fun a hr => ?_
  refine eof hd 7 8 rfl (wgt hr (c := true) rfl) hr fun a hr => ?_
  refine eof hd 6 9 rfl (wgt hr (c := true) rfl) hr fun a hr => ?_
  refine eof hd 5 10 rfl (wgt hr (c := true) rfl) hr fun a hr => ?_
  refine eof hd 4 7 rfl (wgt hr (c := true) rfl) hr fun a hr => ?_
  refine eof hd 3 11 rfl (wgt hr (c := true) rfl) hr fun a hr => ?_
  refine eof hd 2 12 rfl (wgt hr (c := true) rfl) hr fun a hr => ?_
  refine eof hd 1 13 rfl (wgt hr (c := true) rfl) hr fun a hr => ?_
  refine evs' hd 0 [(14, 21, vB true)] hr fun a hr => ?_
  refine een ?_
  refine then_normal ?_
  refine cond_tt hr (b := true) rfl ?_
  refine sr ?_
  refine o1 hr (vI 22) fun a hr => ?_
  refine ln ?_
  refine wp_ret ?_
  refine then_ret ?_
  refine end_ret1 (v := vI 22) rfl hr (by kernel_rfl) ?_
  replace H := ej1 H; subst H
  exact ⟨rfl, h⟩

/-- (*plunder/cells.Arena).Reserve -/
def cells_Arena_Reserve_nil (p1 : Int) : Option (Int × Int) :=
  ob0 (some ()) (ob1 (cells_ledger_refuse_nil p1) (fun r3 => (if r3 = 0 then none else some (0, r3))))

theorem cells_Arena_Reserve_nil_ok {z w : World} {L : List HProp} {p1 r0 r1 : Int} (H : cells_Arena_Reserve_nil p1 = some (r0, r1)) (h : Fit z (sepL (L)) w)  :
    Calls Try.prog 20 #[pN, vI p1] w fun e w => e = .returned (.tuple #[vI r0, vI r1]) ∧ Fit z (sepL (L)) w := by
 unfold cells_Arena_Reserve_nil at H
 refine enter Try.func20 rfl 37 rfl rfl [(0, pN), (1, vI p1)] ⟨rfl, rfl, trivial⟩ ?_
 intro j a hr
 refine sr ?_
 refine oo [4, 5] [vI 0, vI 0] hr fun a hr => ?_
 refine ln ?_
 refine sr ?_
 refine o1 hr (pN) fun a hr => ?_
 refine ln ?_
 obtain ⟨o2, H, hK1⟩ := kd0 H
 refine cut_rule (β := Unit) (fun _ a w => () = o2 ∧ ∃ j, Rep 37 (lk [(0, pN), (1, vI p1), (6, pN)] j) a ∧ Fit z (sepL (L)) w) ?_ ?_
 ·
  refine sr ?_
  refine oo [9, 10] [pN, vB false] hr fun a hr => ?_
  refine ln ?_
  refine cond_ff hr (b := false) rfl ?_
  refine wp_skip ?_
  refine then_normal ?_
  exact ⟨(), sinj H, hr.fj h⟩
 clear h hr a; rintro _ a w ⟨rfl, j, hr, h⟩
 replace H := kk0 hK1
 refine wp_seq ?_
 refine sr ?_
 obtain ⟨r3, e4, H⟩ := bd1 H
 refine oo [14, 15] [pN, vI p1] hr fun a hr => ?_
 have hc := cells_ledger_refuse_nil_ok (H := e4) (h := h)
 refine cl (wn rfl) hr hc ?_; clear hc h
 rintro _ w ⟨rfl, h⟩; refine ⟨_, rfl, fun a hr => ?_⟩
 refine o1 hr (vI r3) fun a hr => ?_
 refine ln ?_
 refine sr ?_
 refine oo [17, 18] [vI r3, vB (r3 != 0)] hr fun a hr => ?_
 refine ln ?_
 refine cN hr H (fun c5 H => ?_) fun c5 H => ?_
 ·
  refine wp_skip ?_
  refine then_normal ?_
  refine sr ?_
  cases H
 ·
  refine sr ?_
  refine oo [19, 4, 5] [vI r3, vI 0, vI r3] hr fun a hr => ?_
  refine ln ?_
  refine wp_ret ?_
  refine then_ret ?_
  refine end_ret2 (v := vI 0) (v' := vI r3) rfl hr (by kernel_rfl) (by kernel_rfl) ?_
  obtain ⟨rfl, rfl⟩ := ej2 H
  exact ⟨rfl, h⟩

/-- plunder/plunderlaw2.done -/
def plunderlaw2_done_nil (p1 : T_plunderlaw2_Move) : Option (T_api_Effect) :=
  (if p1.Kind = 0 then ob2 (cells_Arena_Load_nil p1.Addr) (fun r4 r5 => some (⟨r4, r5 == 0, r5⟩ : T_api_Effect)) else (if p1.Kind = 1 then ob1 (cells_Arena_Store_nil p1.Addr p1.A) (fun r8 => some (⟨0, r8 == 0, r8⟩ : T_api_Effect)) else (if p1.Kind = 2 then ob2 (cells_Arena_CAS_nil p1.Addr p1.A p1.B) (fun r11 r12 => some (⟨0, r11, r12⟩ : T_api_Effect)) else (if p1.Kind = 3 then ob2 (cells_Arena_Add_nil p1.Addr p1.A) (fun r15 r16 => some (⟨r15, r16 == 0, r16⟩ : T_api_Effect)) else ob2 (cells_Arena_Reserve_nil p1.A) (fun r18 r19 => some (⟨r18, r19 == 0, r19⟩ : T_api_Effect))))))

theorem plunderlaw2_done_nil_ok {z w : World} {L : List HProp} {p1 : T_plunderlaw2_Move} {r0 : T_api_Effect} (H : plunderlaw2_done_nil p1 = some r0) (h : Fit z (sepL (L)) w)  :
    Calls Try.prog 22 #[pN, ag_T_plunderlaw2_Move p1] w fun e w => e = .returned (ag_T_api_Effect r0) ∧ Fit z (sepL (L)) w := by
 unfold plunderlaw2_done_nil at H
 refine enter Try.func22 rfl 86 rfl rfl [(0, pN), (1, ag_T_plunderlaw2_Move p1)] ⟨rfl, rfl, trivial⟩ ?_
 intro j a hr
 refine sr ?_
 refine onew (wn rfl) hr h nb (ca_T_plunderlaw2_Move p1) 30 fun b1 w a h hr => ?_
 refine onew (wn rfl) hr h nb (#[vI 0, vB false, vI 0]) 39 fun b2 w a h hr => ?_
 refine ln ?_
 refine wp_seq ?_
 refine sr ?_
 refine o1 hr (pA b1 1) fun a hr => ?_
 refine ld (wn rfl) hr (vI p1.Kind) ((h.pick 1).cell 1 rfl) fun a hr => ?_
 refine ln ?_
 refine wp_block ?_
 refine sr ?_
 refine oo [17, 16] [vB (p1.Kind == 0), vB (p1.Kind == 0)] hr fun a hr => ?_
 refine ln ?_
 refine cD hr H (fun c3 H => ?_) fun c3 H => ?_
 ·
  refine sr ?_
  refine oo [19, 20] [pN, pA b1 2] hr fun a hr => ?_
  refine ld (wn rfl) hr (vI p1.Addr) ((h.pick 1).cell 2 rfl) fun a hr => ?_
  obtain ⟨r4, r5, e6, H⟩ := bd2 H
  have hc := cells_Arena_Load_nil_ok (H := e6) (h := h)
  refine cl (wn rfl) hr hc ?_; clear hc h
  rintro _ w ⟨rfl, h⟩; refine ⟨_, rfl, fun a hr => ?_⟩
  refine oo [18, 23, 24, 5, 6] [.tuple #[vI r4, vI r5], vI r4, vI r5, vI r4, vI r5] hr fun a hr => ?_
  refine ln ?_
  refine sr ?_
  refine oo [25, 26, 27, 28, 29] [vI r4, vI r5, vB (r5 == 0), vI r5, .agg #[vI r4, vB (r5 == 0), vI r5]] hr fun a hr => ?_
  refine stm (wn rfl) hr h 0 ([vI r4, vB (r5 == 0), vI r5]) (pts b2 (.cells #[vI r4, vB (r5 == 0), vI r5] 39)) fun w h => ?_
  refine ln ?_
  refine wp_ret ?_
  refine blk_ret ?_
  refine then_ret ?_
  refine end_retC (cs := [vI r4, vB (r5 == 0), vI r5]) rfl hr (by kernel_rfl) (by kernel_rfl) (by kernel_rfl) (h.held 0 rfl) ?_
  replace H := ej1 H; subst H
  exact ⟨rfl, h.se 2 []⟩
 ·
  refine sr ?_
  refine oo [31, 30] [vB (p1.Kind == 1), vB (p1.Kind == 1)] hr fun a hr => ?_
  refine ln ?_
  refine cD hr H (fun c7 H => ?_) fun c7 H => ?_
  ·
   refine sr ?_
   refine oo [32, 33] [pN, pA b1 2] hr fun a hr => ?_
   refine ld (wn rfl) hr (vI p1.Addr) ((h.pick 1).cell 2 rfl) fun a hr => ?_
   refine o1 hr (pA b1 3) fun a hr => ?_
   refine ld (wn rfl) hr (vI p1.A) ((h.pick 1).cell 3 rfl) fun a hr => ?_
   obtain ⟨r8, e9, H⟩ := bd1 H
   have hc := cells_Arena_Store_nil_ok (H := e9) (h := h)
   refine cl (wn rfl) hr hc ?_; clear hc h
   rintro _ w ⟨rfl, h⟩; refine ⟨_, rfl, fun a hr => ?_⟩
   refine o1 hr (vI r8) fun a hr => ?_
   refine ln ?_
   refine sr ?_
   refine oo [38, 39, 40, 41] [vI r8, vB (r8 == 0), vI r8, .agg #[vI 0, vB (r8 == 0), vI r8]] hr fun a hr => ?_
   refine stm (wn rfl) hr h 0 ([vI 0, vB (r8 == 0), vI r8]) (pts b2 (.cells #[vI 0, vB (r8 == 0), vI r8] 39)) fun w h => ?_
   refine ln ?_
   refine wp_ret ?_
   refine blk_ret ?_
   refine then_ret ?_
   refine end_retC (cs := [vI 0, vB (r8 == 0), vI r8]) rfl hr (by kernel_rfl) (by kernel_rfl) (by kernel_rfl) (h.held 0 rfl) ?_
   replace H := ej1 H; subst H
   exact ⟨rfl, h.se 2 []⟩
  ·
   refine sr ?_
   refine oo [43, 42] [vB (p1.Kind == 2), vB (p1.Kind == 2)] hr fun a hr => ?_
   refine ln ?_
   refine cD hr H (fun c10 H => ?_) fun c10 H => ?_
   ·
    refine sr ?_
    refine oo [45, 46] [pN, pA b1 2] hr fun a hr => ?_
    refine ld (wn rfl) hr (vI p1.Addr) ((h.pick 1).cell 2 rfl) fun a hr => ?_
    refine o1 hr (pA b1 3) fun a hr => ?_
    refine ld (wn rfl) hr (vI p1.A) ((h.pick 1).cell 3 rfl) fun a hr => ?_
    refine o1 hr (pA b1 4) fun a hr => ?_
    refine ld (wn rfl) hr (vI p1.B) ((h.pick 1).cell 4 rfl) fun a hr => ?_
    obtain ⟨r11, r12, e13, H⟩ := bd2 H
    have hc := cells_Arena_CAS_nil_ok (H := e13) (h := h)
    refine cl (wn rfl) hr hc ?_; clear hc h
    rintro _ w ⟨rfl, h⟩; refine ⟨_, rfl, fun a hr => ?_⟩
    refine oo [44, 53, 54, 8, 9] [.tuple #[vB r11, vI r12], vB r11, vI r12, vB r11, vI r12] hr fun a hr => ?_
    refine ln ?_
    refine sr ?_
    refine oo [55, 56, 57] [vB r11, vI r12, .agg #[vI 0, vB r11, vI r12]] hr fun a hr => ?_
    refine stm (wn rfl) hr h 0 ([vI 0, vB r11, vI r12]) (pts b2 (.cells #[vI 0, vB r11, vI r12] 39)) fun w h => ?_
    refine ln ?_
    refine wp_ret ?_
    refine blk_ret ?_
    refine then_ret ?_
    refine end_retC (cs := [vI 0, vB r11, vI r12]) rfl hr (by kernel_rfl) (by kernel_rfl) (by kernel_rfl) (h.held 0 rfl) ?_
    replace H := ej1 H; subst H
    exact ⟨rfl, h.se 2 []⟩
   ·
    refine sr ?_
    refine oo [59, 58] [vB (p1.Kind == 3), vB (p1.Kind == 3)] hr fun a hr => ?_
    refine ln ?_
    refine cD hr H (fun c14 H => ?_) fun c14 H => ?_
    ·
     refine sr ?_
     refine oo [61, 62] [pN, pA b1 2] hr fun a hr => ?_
     refine ld (wn rfl) hr (vI p1.Addr) ((h.pick 1).cell 2 rfl) fun a hr => ?_
     refine o1 hr (pA b1 3) fun a hr => ?_
     refine ld (wn rfl) hr (vI p1.A) ((h.pick 1).cell 3 rfl) fun a hr => ?_
     obtain ⟨r15, r16, e17, H⟩ := bd2 H
     have hc := cells_Arena_Add_nil_ok (H := e17) (h := h)
     refine cl (wn rfl) hr hc ?_; clear hc h
     rintro _ w ⟨rfl, h⟩; refine ⟨_, rfl, fun a hr => ?_⟩
     refine oo [60, 67, 68, 10, 11] [.tuple #[vI r15, vI r16], vI r15, vI r16, vI r15, vI r16] hr fun a hr => ?_
     refine ln ?_
     refine sr ?_
     refine oo [69, 70, 71, 72, 73] [vI r15, vI r16, vB (r16 == 0), vI r16, .agg #[vI r15, vB (r16 == 0), vI r16]] hr fun a hr => ?_
     refine stm (wn rfl) hr h 0 ([vI r15, vB (r16 == 0), vI r16]) (pts b2 (.cells #[vI r15, vB (r16 == 0), vI r16] 39)) fun w h => ?_
     refine ln ?_
     refine wp_ret ?_
     refine blk_ret ?_
     refine then_ret ?_
     refine end_retC (cs := [vI r15, vB (r16 == 0), vI r16]) rfl hr (by kernel_rfl) (by kernel_rfl) (by kernel_rfl) (h.held 0 rfl) ?_
     replace H := ej1 H; subst H
     exact ⟨rfl, h.se 2 []⟩
    ·
     refine wp_skip ?_
     refine blk_normal ?_
     refine then_normal ?_
     refine sr ?_
     refine oo [75, 76] [pN, pA b1 3] hr fun a hr => ?_
     refine ld (wn rfl) hr (vI p1.A) ((h.pick 1).cell 3 rfl) fun a hr => ?_
     obtain ⟨r18, r19, e20, H⟩ := bd2 H
     have hc := cells_Arena_Reserve_nil_ok (H := e20) (h := h)
     refine cl (wn rfl) hr hc ?_; clear hc h
     rintro _ w ⟨rfl, h⟩; refine ⟨_, rfl, fun a hr => ?_⟩
     refine oo [74, 79, 80, 12, 13] [.tuple #[vI r18, vI r19], vI r18, vI r19, vI r18, vI r19] hr fun a hr => ?_
     refine ln ?_
     refine sr ?_
     refine oo [81, 82, 83, 84, 85] [vI r18, vI r19, vB (r19 == 0), vI r19, .agg #[vI r18, vB (r19 == 0), vI r19]] hr fun a hr => ?_
     refine stm (wn rfl) hr h 0 ([vI r18, vB (r19 == 0), vI r19]) (pts b2 (.cells #[vI r18, vB (r19 == 0), vI r19] 39)) fun w h => ?_
     refine ln ?_
     refine wp_ret ?_
     refine end_retC (cs := [vI r18, vB (r19 == 0), vI r19]) rfl hr (by kernel_rfl) (by kernel_rfl) (by kernel_rfl) (h.held 0 rfl) ?_
     replace H := ej1 H; subst H
     exact ⟨rfl, h.se 2 []⟩

/-- (*plunder/cells.Arena).Watch -/
def cells_Arena_Watch_nil (p1 : Bool) : Option (Unit) :=
  some ()

theorem cells_Arena_Watch_nil_ok {z w : World} {L : List HProp} {p1 : Bool} (H : cells_Arena_Watch_nil p1 = some ()) (h : Fit z (sepL (L)) w)  :
    Calls Try.prog 88 #[pN, vB p1] w fun e w => e = .returned (.tuple #[]) ∧ Fit z (sepL (L)) w := by
 unfold cells_Arena_Watch_nil at H
 refine enter Try.func88 rfl 10 rfl rfl [(0, pN), (1, vB p1)] ⟨rfl, rfl, trivial⟩ ?_
 intro j a hr
 refine sr ?_
 refine oo [4, 5] [pN, vB false] hr fun a hr => ?_
 refine ln ?_
 refine cond_ff hr (b := false) rfl ?_
 refine wp_skip ?_
 refine end_norm0 rfl hr ?_
 cases H
 exact ⟨rfl, h⟩

/-- (*plunder/cells.Arena).Who -/
def cells_Arena_Who_nil (p1 : Int) : Option (Unit) :=
  some ()

theorem cells_Arena_Who_nil_ok {z w : World} {L : List HProp} {p1 : Int} (H : cells_Arena_Who_nil p1 = some ()) (h : Fit z (sepL (L)) w)  :
    Calls Try.prog 96 #[pN, vI p1] w fun e w => e = .returned (.tuple #[]) ∧ Fit z (sepL (L)) w := by
 unfold cells_Arena_Who_nil at H
 refine enter Try.func96 rfl 10 rfl rfl [(0, pN), (1, vI p1)] ⟨rfl, rfl, trivial⟩ ?_
 intro j a hr
 refine sr ?_
 refine oo [4, 5] [pN, vB false] hr fun a hr => ?_
 refine ln ?_
 refine cond_ff hr (b := false) rfl ?_
 refine wp_skip ?_
 refine end_norm0 rfl hr ?_
 cases H
 exact ⟨rfl, h⟩

/-- (*plunder/cells.Arena).Size -/
def cells_Arena_Size_nil : Option (Int) :=
  some 0

theorem cells_Arena_Size_nil_ok {z w : World} {L : List HProp} {r0 : Int} (H : cells_Arena_Size_nil = some r0) (h : Fit z (sepL (L)) w)  :
    Calls Try.prog 97 #[pN] w fun e w => e = .returned (vI r0) ∧ Fit z (sepL (L)) w := by
 unfold cells_Arena_Size_nil at H
 refine enter Try.func97 rfl 9 rfl rfl [(0, pN)] ⟨rfl, trivial⟩ ?_
 intro j a hr
 refine sr ?_
 refine o1 hr (vI 0) fun a hr => ?_
 refine ln ?_
 refine wp_seq ?_
 refine sr ?_
 refine oo [3, 4] [pN, vB true] hr fun a hr => ?_
 refine ln ?_
 refine cond_tt hr (b := true) rfl ?_
 refine sr ?_
 refine o1 hr (vI 0) fun a hr => ?_
 refine ln ?_
 refine wp_ret ?_
 refine then_ret ?_
 refine end_ret1 (v := vI 0) rfl hr (by kernel_rfl) ?_
 replace H := ej1 H; subst H
 exact ⟨rfl, h⟩

/-- (*plunder/cells.Arena).Mark -/
def cells_Arena_Mark_nil : Option (Int) :=
  some 0

theorem cells_Arena_Mark_nil_ok {z w : World} {L : List HProp} {r0 : Int} (H : cells_Arena_Mark_nil = some r0) (h : Fit z (sepL (L)) w)  :
    Calls Try.prog 98 #[pN] w fun e w => e = .returned (vI r0) ∧ Fit z (sepL (L)) w := by
 unfold cells_Arena_Mark_nil at H
 refine enter Try.func98 rfl 9 rfl rfl [(0, pN)] ⟨rfl, trivial⟩ ?_
 intro j a hr
 refine sr ?_
 refine o1 hr (vI 0) fun a hr => ?_
 refine ln ?_
 refine wp_seq ?_
 refine sr ?_
 refine oo [3, 4] [pN, vB true] hr fun a hr => ?_
 refine ln ?_
 refine cond_tt hr (b := true) rfl ?_
 refine sr ?_
 refine o1 hr (vI 0) fun a hr => ?_
 refine ln ?_
 refine wp_ret ?_
 refine then_ret ?_
 refine end_ret1 (v := vI 0) rfl hr (by kernel_rfl) ?_
 replace H := ej1 H; subst H
 exact ⟨rfl, h⟩

/-- (*plunder/cells.Arena).Cells -/
def cells_Arena_Cells_nil : Option ((List Int)) :=
  some ([] : List Int)

theorem cells_Arena_Cells_nil_ok {z w : World} {L : List HProp} {r0 : List Int} (H : cells_Arena_Cells_nil = some r0) (h : Fit z (sepL (L)) w)  :
    Calls Try.prog 24 #[pN] w fun e w => ∃ car0_1, e = .returned (.slice car0_1 r0.length r0.length) ∧ Fit z (sepL (ro2 car0_1 r0.length r0 :: L)) w := by
 unfold cells_Arena_Cells_nil at H
 refine enter Try.func24 rfl 19 rfl rfl [(0, pN)] ⟨rfl, trivial⟩ ?_
 intro j a hr
 refine sr ?_
 refine o1 hr (.slice none 0 0) fun a hr => ?_
 refine ln ?_
 refine wp_seq ?_
 refine sr ?_
 refine oo [4, 5] [pN, vB true] hr fun a hr => ?_
 refine ln ?_
 refine cond_tt hr (b := true) rfl ?_
 refine sr ?_
 refine o1 hr (.slice none 0 0) fun a hr => ?_
 refine ln ?_
 refine wp_ret ?_
 refine then_ret ?_
 refine end_ret1 (v := .slice none 0 0) rfl hr (by kernel_rfl) ?_
 replace h := h.row_nil (e := 2) (sz := 1) (enc := encZ_i64)
 replace H := ej1 H; subst H
 exact ⟨none, rfl, h⟩

/-- (*plunder/cells.Arena).Log -/
def cells_Arena_Log_nil : Option ((List T_api_Access)) :=
  some ([] : List T_api_Access)

theorem cells_Arena_Log_nil_ok {z w : World} {L : List HProp} {r0 : List T_api_Access} (H : cells_Arena_Log_nil = some r0) (h : Fit z (sepL (L)) w)  :
    Calls Try.prog 70 #[pN] w fun e w => ∃ car0_1, e = .returned (.slice car0_1 r0.length r0.length) ∧ Fit z (sepL (ro90 car0_1 r0.length r0 :: L)) w := by
 unfold cells_Arena_Log_nil at H
 refine enter Try.func70 rfl 19 rfl rfl [(0, pN)] ⟨rfl, trivial⟩ ?_
 intro j a hr
 refine sr ?_
 refine o1 hr (.slice none 0 0) fun a hr => ?_
 refine ln ?_
 refine wp_seq ?_
 refine sr ?_
 refine oo [4, 5] [pN, vB true] hr fun a hr => ?_
 refine ln ?_
 refine cond_tt hr (b := true) rfl ?_
 refine sr ?_
 refine o1 hr (.slice none 0 0) fun a hr => ?_
 refine ln ?_
 refine wp_ret ?_
 refine then_ret ?_
 refine end_ret1 (v := .slice none 0 0) rfl hr (by kernel_rfl) ?_
 replace h := h.row_nil (e := 90) (sz := 6) (enc := enc_T_api_Access)
 replace H := ej1 H; subst H
 exact ⟨none, rfl, h⟩

/-- plunder/plunderlaw2.plays -/
def plunderlaw2_plays_nil (K : Nat) (p1 : T_plunderref2_Arena) (p2 : T_plunderlaw2_Move) (p3 : T_plunderlaw2_book) : Option (Bool × T_plunderref2_Arena × T_plunderlaw2_book) :=
  jn0 (ob1 ((if p2.Kind ≥ 0 then some (decide (p2.Kind ≤ 4)) else some false)) (fun g12 => (if g12 = true then ob1 (plunderlaw2_done_nil p2) (fun r17 => ob1 (plunderlaw2_act p2) (fun r20 => ob2 (plunderref2_Arena_Do K p1 r20) (fun r22 S23 => some (.inr (decide (r17 = r22), S23, p3))))) else some (.inl ())))) ((if p2.Kind = 5 then ob1 (plunderlaw2_mod p2.A 2) (fun r31 => ob0 (cells_Arena_Watch_nil (r31 == 1)) (ob1 (plunderlaw2_mod p2.A 2) (fun r34 => some (true, { p1 with On := r34 == 1 }, p3)))) else (if p2.Kind = 6 then ob0 (cells_Arena_Who_nil p2.Addr) (some (true, { p1 with Actor := p2.Addr }, p3)) else (if p2.Kind = 7 then ob1 (cells_Arena_Size_nil) (fun r39 => some (r39 == p1.Most, p1, p3)) else (if p2.Kind = 8 then ob1 (cells_Arena_Mark_nil) (fun r42 => some (r42 == ((p1.Held.length : Nat) : Int), p1, p3)) else (if p2.Kind = 9 then ob1 (cells_Arena_Cells_nil) (fun r45 => ob1 (plunderlaw2_sameNumbers K r45 p1.Held) (fun r48 => ob1 (plunderlaw2_book_numbers K p3 r45) (fun S50 => some (r48, p1, S50)))) else (if p2.Kind = 10 then ob1 (cells_Arena_Log_nil) (fun r57 => ob1 (plunderlaw2_sameLog K r57 p1.Book) (fun r60 => ob1 (plunderlaw2_book_accesses K p3 r57) (fun S62 => some (r60, p1, S62)))) else some (true, p1, p3))))))))

theorem plunderlaw2_plays_nil_ok {z w : World} {L : List HProp} {K : Nat} {p1 q1 : T_plunderref2_Arena} {p2 : T_plunderlaw2_Move} {p3 q3 : T_plunderlaw2_book} {B1 cc2 cc4 B3 cc6 cc8 : Nat} {ca1 ca3 ca5 ca7 : Option Addr} {r0 : Bool} (H : plunderlaw2_plays_nil K p1 p2 p3 = some (r0, q1, q3)) (h : Fit z (sepL (ob62 B1 p1 ca1 cc2 ca3 cc4 :: ro2 ca1 cc2 p1.Held :: ro90 ca3 cc4 p1.Book :: ob78 B3 p3 ca5 cc6 ca7 cc8 :: rn139 ca5 cc6 p3.numberLists :: rn142 ca7 cc8 p3.accessLists :: L)) w)  :
    Calls Try.prog 69 #[pN, pA B1 0, ag_T_plunderlaw2_Move p2, pA B3 0] w fun e w => ∃ caq1_1 ccq1_2 caq1_3 ccq1_4 caq3_1 ccq3_2 caq3_3 ccq3_4, e = .returned (vB r0) ∧ Fit z (sepL (ob62 B1 q1 caq1_1 ccq1_2 caq1_3 ccq1_4 :: ro2 caq1_1 ccq1_2 q1.Held :: ro90 caq1_3 ccq1_4 q1.Book :: ob78 B3 q3 caq3_1 ccq3_2 caq3_3 ccq3_4 :: rn139 caq3_1 ccq3_2 q3.numberLists :: rn142 caq3_3 ccq3_4 q3.accessLists :: L)) w := by
 unfold plunderlaw2_plays_nil at H
 refine enter Try.func69 rfl 108 rfl rfl [(0, pN), (1, pA B1 0), (2, ag_T_plunderlaw2_Move p2), (3, pA B3 0)] ⟨rfl, rfl, rfl, rfl, trivial⟩ ?_
 intro j a hr
 refine sr ?_
 refine onew (wn rfl) hr h nb (ca_T_plunderlaw2_Move p2) 30 fun b9 w a h hr => ?_
 refine o1 hr (vB false) fun a hr => ?_
 refine ln ?_
 obtain ⟨o11, H, hK10⟩ := jd0 H
 refine cut_rule (β := Unit) (fun _ a w => .inl () = o11 ∧ ∃ j, Rep 108 (lk [(0, pN), (1, pA B1 0), (3, pA B3 0), (6, pA b9 0)] j) a ∧ Fit z (sepL (ob62 B1 p1 ca1 cc2 ca3 cc4 :: ro2 ca1 cc2 p1.Held :: ro90 ca3 cc4 p1.Book :: ob78 B3 p3 ca5 cc6 ca7 cc8 :: rn139 ca5 cc6 p3.numberLists :: rn142 ca7 cc8 p3.accessLists :: ob30 b9 p2 :: L)) w) ?_ ?_
 ·
  obtain ⟨o14, H, hK13⟩ := kd1 H
  refine cut_rule (β := Unit) (fun _ a w => ∃ g12 : Bool, g12 = o14 ∧ ∃ j, Rep 108 (lk [(0, pN), (1, pA B1 0), (3, pA B3 0), (6, pA b9 0), (22, vB g12)] j) a ∧ Fit z (sepL (ob62 B1 p1 ca1 cc2 ca3 cc4 :: ro2 ca1 cc2 p1.Held :: ro90 ca3 cc4 p1.Book :: ob78 B3 p3 ca5 cc6 ca7 cc8 :: rn139 ca5 cc6 p3.numberLists :: rn142 ca7 cc8 p3.accessLists :: ob30 b9 p2 :: L)) w) ?_ ?_
  ·
   refine wp_region_lit ?_
   refine o1 hr (pA b9 1) fun a hr => ?_
   refine ld (wn rfl) hr (vI p2.Kind) (h.cell 1 rfl) fun a hr => ?_
   refine oo [17, 18] [vB (decide (p2.Kind ≥ 0)), vB (decide (p2.Kind ≥ 0))] hr fun a hr => ?_
   by_cases c15 : p2.Kind ≥ 0
   ·
    replace H := ifT c15 H
    refine onl (decide_eq_true c15) [19] [pA b9 1] hr fun a hr => ?_
    refine ld (wgt hr (decide_eq_true c15)) hr (vI p2.Kind) (h.cell 1 rfl) fun a hr => ?_
    refine onl (decide_eq_true c15) [21] [vB (decide (p2.Kind ≤ 4))] hr fun a hr => ?_
    refine opv (wn rfl) hr (vB (decide (p2.Kind ≤ 4))) (rp_t (b := (decide (p2.Kind ≥ 0))) rfl (by kernel_rfl) (decide_eq_true c15) (by kernel_rfl)) fun a hr => ?_
    refine ln ?_
    exact ⟨(), (decide (p2.Kind ≤ 4)), sinj H, hr.fj (h.se 7 [1, 2, 3, 4, 5, 6, 0])⟩
   ·
    replace H := ifF c15 H
    refine offl (decide_eq_false c15) [19, 20, 21] hr fun a hr => ?_
    refine opv (wn rfl) hr (vB false) (rp_f (b := (decide (p2.Kind ≥ 0))) rfl (by kernel_rfl) (decide_eq_false c15) (by kernel_rfl)) fun a hr => ?_
    refine ln ?_
    exact ⟨(), false, sinj H, hr.fj (h.se 7 [1, 2, 3, 4, 5, 6, 0])⟩
  clear h hr a; rintro _ a w ⟨g12, rfl, j, hr, h⟩
  replace H := kk1 hK13
  refine cV hr H (fun c16 H => ?_) fun c16 H => ?_
  ·
   refine sr ?_
   refine o1 hr (pN) fun a hr => ?_
   refine ldm (wn rfl) hr (ag_T_plunderlaw2_Move p2) (cs := cl_T_plunderlaw2_Move p2) ((h.pick 6).held 0 rfl) fun a hr => ?_
   obtain ⟨r17, e18, H⟩ := bd1 H
   have hc := plunderlaw2_done_nil_ok (H := e18) (h := h)
   refine cl (wn rfl) hr hc ?_; clear hc h
   rintro _ w ⟨rfl, h⟩; refine ⟨_, rfl, fun a hr => ?_⟩
   refine onew (wn rfl) hr h nb (#[vI 0, vB false, vI 0]) 39 fun b19 w a h hr => ?_
   refine stm (wn rfl) hr h 0 (cl_T_api_Effect r17) (ob39 b19 r17) fun w h => ?_
   refine ln ?_
   refine sr ?_
   refine o1 hr (pA B1 0) fun a hr => ?_
   refine ldm (wn rfl) hr (ag_T_plunderlaw2_Move p2) (cs := cl_T_plunderlaw2_Move p2) ((h.pick 7).held 0 rfl) fun a hr => ?_
   obtain ⟨r20, e21, H⟩ := bd1 H
   have hc := plunderlaw2_act_ok (H := e21) (h := h)
   refine cl (wn rfl) hr hc ?_; clear hc h
   rintro _ w ⟨rfl, h⟩; refine ⟨_, rfl, fun a hr => ?_⟩
   obtain ⟨r22, S23, e24, H⟩ := bd2 H
   replace h := h.m3.m3.m3
   have hc := plunderref2_Arena_Do_ok (H := e24) (h := h)
   refine cl (wn rfl) hr hc ?_; clear hc h
   rintro _ w ⟨caq25, ccq26, caq27, ccq28, rfl, h⟩; refine ⟨_, rfl, fun a hr => ?_⟩
   refine onew (wn rfl) hr h nb (#[vI 0, vB false, vI 0]) 39 fun b29 w a h hr => ?_
   refine stm (wn rfl) hr h 0 (cl_T_api_Effect r22) (ob39 b29 r22) fun w h => ?_
   refine ln ?_
   refine sr ?_
   refine ldm (wn rfl) hr (ag_T_api_Effect r17) (cs := cl_T_api_Effect r17) ((h.pick 4).held 0 rfl) fun a hr => ?_
   refine ldm (wn rfl) hr (ag_T_api_Effect r22) (cs := cl_T_api_Effect r22) (h.held 0 rfl) fun a hr => ?_
   refine opv (wn rfl) hr (vB (decide (r17 = r22))) (rb (req rfl (by kernel_rfl) (by kernel_rfl) (by kernel_rfl) (by kernel_rfl) (by kernel_rfl) (by kernel_rfl)) (eq_T_api_Effect r17 r22)) fun a hr => ?_
   refine o1 hr (vB (decide (r17 = r22))) fun a hr => ?_
   refine ln ?_
   refine wp_ret ?_
   refine then_ret ?_
   refine end_ret1 (v := vB (decide (r17 = r22))) rfl hr (by kernel_rfl) ?_
   replace H := jx0 H hK10
   obtain ⟨rfl, rfl, rfl⟩ := ej3 H
   exact ⟨caq25, ccq26, caq27, ccq28, ca5, cc6, ca7, cc8, rfl, h.se 9 [1, 2, 3, 5, 6, 7]⟩
  ·
   refine wp_skip ?_
   refine then_normal ?_
   exact ⟨(), sinj H, hr.fj h⟩
 clear h hr a; rintro _ a w ⟨rfl, j, hr, h⟩
 replace H := jk0 hK10
 refine wp_seq ?_
 refine sr ?_
 refine o1 hr (pA b9 1) fun a hr => ?_
 refine ld (wn rfl) hr (vI p2.Kind) ((h.pick 6).cell 1 rfl) fun a hr => ?_
 refine ln ?_
 refine wp_block ?_
 refine sr ?_
 refine oo [36, 35] [vB (p2.Kind == 5), vB (p2.Kind == 5)] hr fun a hr => ?_
 refine ln ?_
 refine cD hr H (fun c30 H => ?_) fun c30 H => ?_
 ·
  refine sr ?_
  refine oo [37, 38] [pN, pA b9 3] hr fun a hr => ?_
  refine ld (wn rfl) hr (vI p2.A) ((h.pick 6).cell 3 rfl) fun a hr => ?_
  obtain ⟨r31, e32, H⟩ := bd1 H
  have hc := plunderlaw2_mod_ok (H := e32) (h := h)
  refine cl (wn rfl) hr hc ?_; clear hc h
  rintro _ w ⟨rfl, h⟩; refine ⟨_, rfl, fun a hr => ?_⟩
  obtain ⟨e33, H⟩ := bd0 H
  refine o1 hr (vB (r31 == 1)) fun a hr => ?_
  have hc := cells_Arena_Watch_nil_ok (H := e33) (h := h)
  refine cl (wn rfl) hr hc ?_; clear hc h
  rintro _ w ⟨rfl, h⟩; refine ⟨_, rfl, fun a hr => ?_⟩
  refine ln ?_
  refine wp_region_lit ?_
  refine oo [43, 44] [pA B1 0, pA b9 3] hr fun a hr => ?_
  refine ld (wn rfl) hr (vI p2.A) ((h.pick 6).cell 3 rfl) fun a hr => ?_
  obtain ⟨r34, e35, H⟩ := bd1 H
  have hc := plunderlaw2_mod_ok (H := e35) (h := h)
  refine cl (wn rfl) hr hc ?_; clear hc h
  rintro _ w ⟨rfl, h⟩; refine ⟨_, rfl, fun a hr => ?_⟩
  refine oo [47, 48, 49] [vB (r34 == 1), pA B1 0, pA B1 2] hr fun a hr => ?_
  refine st1 (wn rfl) hr h 2 (vB (r34 == 1)) (pts B1 (.cells #[vI p1.Most, .slice ca1 p1.Held.length cc2, vB (r34 == 1), vI p1.Actor, .slice ca3 p1.Book.length cc4] 62)) fun w h => ?_
  refine wpList_nil ?_
  refine blk_normal ?_
  refine then_normal ?_
  refine sr ?_
  refine o1 hr (vB true) fun a hr => ?_
  refine ln ?_
  refine wp_ret ?_
  refine end_ret1 (v := vB true) rfl hr (by kernel_rfl) ?_
  obtain ⟨rfl, rfl, rfl⟩ := ej3 H
  exact ⟨ca1, cc2, ca3, cc4, ca5, cc6, ca7, cc8, rfl, h.se 7 [0, 1, 2, 3, 4, 5]⟩
 ·
  refine sr ?_
  refine oo [51, 50] [vB (p2.Kind == 6), vB (p2.Kind == 6)] hr fun a hr => ?_
  refine ln ?_
  refine cD hr H (fun c36 H => ?_) fun c36 H => ?_
  ·
   refine sr ?_
   refine oo [52, 53] [pN, pA b9 2] hr fun a hr => ?_
   refine ld (wn rfl) hr (vI p2.Addr) ((h.pick 6).cell 2 rfl) fun a hr => ?_
   obtain ⟨e37, H⟩ := bd0 H
   have hc := cells_Arena_Who_nil_ok (H := e37) (h := h)
   refine cl (wn rfl) hr hc ?_; clear hc h
   rintro _ w ⟨rfl, h⟩; refine ⟨_, rfl, fun a hr => ?_⟩
   refine ln ?_
   refine wp_region_lit ?_
   refine oo [56, 57] [pA B1 0, pA b9 2] hr fun a hr => ?_
   refine ld (wn rfl) hr (vI p2.Addr) ((h.pick 6).cell 2 rfl) fun a hr => ?_
   refine oo [59, 60] [pA B1 0, pA B1 3] hr fun a hr => ?_
   refine st1 (wn rfl) hr h 3 (vI p2.Addr) (pts B1 (.cells #[vI p1.Most, .slice ca1 p1.Held.length cc2, vB p1.On, vI p2.Addr, .slice ca3 p1.Book.length cc4] 62)) fun w h => ?_
   refine wpList_nil ?_
   refine blk_normal ?_
   refine then_normal ?_
   refine sr ?_
   refine o1 hr (vB true) fun a hr => ?_
   refine ln ?_
   refine wp_ret ?_
   refine end_ret1 (v := vB true) rfl hr (by kernel_rfl) ?_
   obtain ⟨rfl, rfl, rfl⟩ := ej3 H
   exact ⟨ca1, cc2, ca3, cc4, ca5, cc6, ca7, cc8, rfl, h.se 7 [0, 1, 2, 3, 4, 5]⟩
  ·
   refine sr ?_
   refine oo [62, 61] [vB (p2.Kind == 7), vB (p2.Kind == 7)] hr fun a hr => ?_
   refine ln ?_
   refine cD hr H (fun c38 H => ?_) fun c38 H => ?_
   ·
    refine wp_seq ?_
    obtain ⟨r39, e40, H⟩ := bd1 H
    refine regL [(B1, 0, [vI p1.Most])] [1, 3, 4] 8 h (fun h => ⟨⟨h.cell 0 rfl, trivial⟩, trivial⟩) fun w h hd => ?_
    refine evs' hd 4 [(0, 63, pN), (2, 65, pA B1 0), (3, 66, pA B1 0), (4, 67, pA B1 0)] hr fun a hr => ?_
    refine elx hd 0 3 5 hr (wn rfl) rfl rfl fun a hr => ?_
    refine eo1 1 rfl ?_
    have hc := cells_Arena_Size_nil_ok (H := e40) (h := h)
    refine cl (wn rfl) hr hc ?_; clear hc h
    rintro _ w ⟨rfl, h⟩; refine ⟨_, rfl, fun a hr => ?_⟩
    refine ln ?_
    refine eE ⟨⟨h.cell 0 rfl, trivial⟩, trivial⟩ fun hd => ?_
    refine evs' hd 0 [(6, 69, vB (r39 == p1.Most)), (7, 8, vB (r39 == p1.Most))] hr fun a hr => ?_
    refine een ?_
    refine then_normal ?_
    refine wp_ret ?_
    refine blk_ret ?_
    refine then_ret ?_
    refine end_ret1 (v := vB (r39 == p1.Most)) rfl hr (by kernel_rfl) ?_
    obtain ⟨rfl, rfl, rfl⟩ := ej3 H
    exact ⟨ca1, cc2, ca3, cc4, ca5, cc6, ca7, cc8, rfl, h.se 7 [0, 1, 2, 3, 4, 5]⟩
   ·
    refine sr ?_
    refine oo [71, 70] [vB (p2.Kind == 8), vB (p2.Kind == 8)] hr fun a hr => ?_
    refine ln ?_
    refine cD hr H (fun c41 H => ?_) fun c41 H => ?_
    ·
     refine wp_seq ?_
     obtain ⟨r42, e43, H⟩ := bd1 H
     refine regL [(B1, 1, [.slice ca1 p1.Held.length cc2])] [1, 3, 4] 9 h (fun h => ⟨⟨h.cell 1 rfl, trivial⟩, trivial⟩) fun w h hd => ?_
     refine evs' hd 5 [(0, 72, pN), (2, 74, pA B1 0), (3, 75, pA B1 0), (4, 76, pA B1 1)] hr fun a hr => ?_
     refine elx hd 0 4 5 hr (wn rfl) rfl rfl fun a hr => ?_
     refine evs' hd 3 [(6, 78, vI ((p1.Held.length : Nat) : Int))] hr fun a hr => ?_
     refine eo1 1 rfl ?_
     have hc := cells_Arena_Mark_nil_ok (H := e43) (h := h)
     refine cl (wn rfl) hr hc ?_; clear hc h
     rintro _ w ⟨rfl, h⟩; refine ⟨_, rfl, fun a hr => ?_⟩
     refine ln ?_
     refine eE ⟨⟨h.cell 1 rfl, trivial⟩, trivial⟩ fun hd => ?_
     refine evs' hd 0 [(7, 79, vB (r42 == ((p1.Held.length : Nat) : Int))), (8, 8, vB (r42 == ((p1.Held.length : Nat) : Int)))] hr fun a hr => ?_
     refine een ?_
     refine then_normal ?_
     refine wp_ret ?_
     refine blk_ret ?_
     refine then_ret ?_
     refine end_ret1 (v := vB (r42 == ((p1.Held.length : Nat) : Int))) rfl hr (by kernel_rfl) ?_
     obtain ⟨rfl, rfl, rfl⟩ := ej3 H
     exact ⟨ca1, cc2, ca3, cc4, ca5, cc6, ca7, cc8, rfl, h.se 7 [0, 1, 2, 3, 4, 5]⟩
    ·
     refine sr ?_
     refine oo [81, 80] [vB (p2.Kind == 9), vB (p2.Kind == 9)] hr fun a hr => ?_
     refine ln ?_
     refine cD hr H (fun c44 H => ?_) fun c44 H => ?_
     ·
      refine sr ?_
      obtain ⟨r45, e46, H⟩ := bd1 H
      refine o1 hr (pN) fun a hr => ?_
      have hc := cells_Arena_Cells_nil_ok (H := e46) (h := h)
      refine cl (wn rfl) hr hc ?_; clear hc h
      rintro _ w ⟨car47, rfl, h⟩; refine ⟨_, rfl, fun a hr => ?_⟩
      refine o1 hr (.slice car47 r45.length r45.length) fun a hr => ?_
      refine ln ?_
      refine sr ?_
      refine oo [84, 85, 86, 87] [.slice car47 r45.length r45.length, pA B1 0, pA B1 0, pA B1 1] hr fun a hr => ?_
      refine ld (wn rfl) hr (.slice ca1 p1.Held.length cc2) ((h.pick 1).cell 1 rfl) fun a hr => ?_
      obtain ⟨r48, e49, H⟩ := bd1 H
      have hc := plunderlaw2_sameNumbers_ok (va0 := car47) (vc0 := r45.length) (va1 := ca1) (vc1 := cc2) (hv0 := (RdRow.of_row encZ_i64_ok h (fun h => h))) (hv1 := (RdRow.of_row encZ_i64_ok (h.pick 2) (fun h => (h.pick 2)))) (H := e49) (h := h)
      refine cl (wn rfl) hr hc ?_; clear hc h
      rintro _ w ⟨rfl, h⟩; refine ⟨_, rfl, fun a hr => ?_⟩
      refine o1 hr (vB r48) fun a hr => ?_
      refine ln ?_
      refine sr ?_
      obtain ⟨S50, e51, H⟩ := bd1 H
      refine oo [90, 91] [pA B3 0, .slice car47 r45.length r45.length] hr fun a hr => ?_
      replace h := h.m6.m6.m6
      have hc := plunderlaw2_book_numbers_ok (H := e51) (h := h)
      refine cl (wn rfl) hr hc ?_; clear hc h
      rintro _ w ⟨caq52, ccq53, caq54, ccq55, rfl, h⟩; refine ⟨_, rfl, fun a hr => ?_⟩
      refine ln ?_
      refine sr ?_
      refine oo [93, 8] [vB r48, vB r48] hr fun a hr => ?_
      refine ln ?_
      refine wp_ret ?_
      refine blk_ret ?_
      refine then_ret ?_
      refine end_ret1 (v := vB r48) rfl hr (by kernel_rfl) ?_
      obtain ⟨rfl, rfl, rfl⟩ := ej3 H
      exact ⟨ca1, cc2, ca3, cc4, caq52, ccq53, caq54, ccq55, rfl, h.se 7 [3, 4, 5, 0, 1, 2]⟩
     ·
      refine sr ?_
      refine oo [95, 94] [vB (p2.Kind == 10), vB (p2.Kind == 10)] hr fun a hr => ?_
      refine ln ?_
      refine cD hr H (fun c56 H => ?_) fun c56 H => ?_
      ·
       refine sr ?_
       obtain ⟨r57, e58, H⟩ := bd1 H
       refine o1 hr (pN) fun a hr => ?_
       have hc := cells_Arena_Log_nil_ok (H := e58) (h := h)
       refine cl (wn rfl) hr hc ?_; clear hc h
       rintro _ w ⟨car59, rfl, h⟩; refine ⟨_, rfl, fun a hr => ?_⟩
       refine o1 hr (.slice car59 r57.length r57.length) fun a hr => ?_
       refine ln ?_
       refine sr ?_
       refine oo [98, 99, 100, 101] [.slice car59 r57.length r57.length, pA B1 0, pA B1 0, pA B1 4] hr fun a hr => ?_
       refine ld (wn rfl) hr (.slice ca3 p1.Book.length cc4) ((h.pick 1).cell 4 rfl) fun a hr => ?_
       obtain ⟨r60, e61, H⟩ := bd1 H
       have hc := plunderlaw2_sameLog_ok (va0 := car59) (vc0 := r57.length) (va1 := ca3) (vc1 := cc4) (hv0 := (RdRow.of_row enc_T_api_Access_ok h (fun h => h))) (hv1 := (RdRow.of_row enc_T_api_Access_ok (h.pick 3) (fun h => (h.pick 3)))) (H := e61) (h := h)
       refine cl (wn rfl) hr hc ?_; clear hc h
       rintro _ w ⟨rfl, h⟩; refine ⟨_, rfl, fun a hr => ?_⟩
       refine o1 hr (vB r60) fun a hr => ?_
       refine ln ?_
       refine sr ?_
       obtain ⟨S62, e63, H⟩ := bd1 H
       refine oo [104, 105] [pA B3 0, .slice car59 r57.length r57.length] hr fun a hr => ?_
       replace h := h.m6.m6.m6
       have hc := plunderlaw2_book_accesses_ok (H := e63) (h := h)
       refine cl (wn rfl) hr hc ?_; clear hc h
       rintro _ w ⟨caq64, ccq65, caq66, ccq67, rfl, h⟩; refine ⟨_, rfl, fun a hr => ?_⟩
       refine ln ?_
       refine sr ?_
       refine oo [107, 8] [vB r60, vB r60] hr fun a hr => ?_
       refine ln ?_
       refine wp_ret ?_
       refine blk_ret ?_
       refine then_ret ?_
       refine end_ret1 (v := vB r60) rfl hr (by kernel_rfl) ?_
       obtain ⟨rfl, rfl, rfl⟩ := ej3 H
       exact ⟨ca1, cc2, ca3, cc4, caq64, ccq65, caq66, ccq67, rfl, h.se 7 [3, 4, 5, 0, 1, 2]⟩
      ·
       refine wp_skip ?_
       refine blk_normal ?_
       refine then_normal ?_
       refine sr ?_
       refine o1 hr (vB true) fun a hr => ?_
       refine ln ?_
       refine wp_ret ?_
       refine end_ret1 (v := vB true) rfl hr (by kernel_rfl) ?_
       obtain ⟨rfl, rfl, rfl⟩ := ej3 H
       exact ⟨ca1, cc2, ca3, cc4, ca5, cc6, ca7, cc8, rfl, h.se 7 [0, 1, 2, 3, 4, 5]⟩

def plunderlaw2_walk_l1 (K : Nat) (p2 : List T_plunderlaw2_Move) (p3 : Bool) (p4 : Bool) : Nat → T_plunderref2_Arena → T_plunderref2_Arena → T_cells_Arena → T_cells_Arena → T_plunderlaw2_book → Int → Option ((T_plunderref2_Arena × T_plunderref2_Arena × T_cells_Arena × T_cells_Arena) ⊕ (Bool))
  | 0, _, _, _, _, _, _ => none
  | k1 + 1, S64, S69, S74, S79, S84, g89 => (if g89 < ((p2.length : Nat) : Int) then if inr_ g89 p2.length then ob6 (ob1 ((if p3 = true then some true else ob1 (plunderlaw2_mod (at_ p2 g89.toNat).Side 2) (fun r125 => some (r125 == 0)))) (fun g121 => (if g121 = true then ob4 (plunderlaw2_plays K S74 S64 (at_ p2 g89.toNat) S84) (fun r128 S129 S130 S131 => some (S130, S69, S129, S79, S131, r128)) else ob4 (plunderlaw2_plays K S79 S69 (at_ p2 g89.toNat) S84) (fun r145 S146 S147 S148 => some (S64, S147, S74, S146, S148, r145))))) (fun S93 S98 S103 S108 S113 g118 => (if g118 = true then (if p4 = true then ob1 (plunderlaw2_book_stands K S113) (fun r164 => (if r164 = true then (plunderlaw2_walk_l1 K p2 p3 p4 k1 S93 S98 S103 S108 S113 (wi (g89 + 1))) else some (.inr false))) else (plunderlaw2_walk_l1 K p2 p3 p4 k1 S93 S98 S103 S108 S113 (wi (g89 + 1)))) else some (.inr false))) else none else some (.inl (S64, S69, S74, S79)))
def plunderlaw2_walk_l2 (K : Nat) (p2 : List T_plunderlaw2_Move) (p3 : Bool) (p4 : Bool) : Nat → T_plunderref2_Arena → T_plunderref2_Arena → T_cells_Arena → T_plunderlaw2_book → Int → Option ((T_plunderref2_Arena × T_plunderref2_Arena × T_cells_Arena) ⊕ (Bool))
  | 0, _, _, _, _, _ => none
  | k2 + 1, S216, S221, S226, S231, g236 => (if g236 < ((p2.length : Nat) : Int) then if inr_ g236 p2.length then ob5 (ob1 ((if p3 = true then some true else ob1 (plunderlaw2_mod (at_ p2 g236.toNat).Side 2) (fun r267 => some (r267 == 0)))) (fun g263 => (if g263 = true then ob4 (plunderlaw2_plays K S226 S216 (at_ p2 g236.toNat) S231) (fun r270 S271 S272 S273 => some (S272, S221, S271, S273, r270)) else ob3 (plunderlaw2_plays_nil K S221 (at_ p2 g236.toNat) S231) (fun r287 S288 S289 => some (S216, S288, S226, S289, r287))))) (fun S240 S245 S250 S255 g260 => (if g260 = true then (if p4 = true then ob1 (plunderlaw2_book_stands K S255) (fun r301 => (if r301 = true then (plunderlaw2_walk_l2 K p2 p3 p4 k2 S240 S245 S250 S255 (wi (g236 + 1))) else some (.inr false))) else (plunderlaw2_walk_l2 K p2 p3 p4 k2 S240 S245 S250 S255 (wi (g236 + 1)))) else some (.inr false))) else none else some (.inl (S216, S221, S226)))
def plunderlaw2_walk_l3 (K : Nat) (p2 : List T_plunderlaw2_Move) (p3 : Bool) (p4 : Bool) : Nat → T_plunderref2_Arena → T_plunderref2_Arena → T_cells_Arena → T_plunderlaw2_book → Int → Option ((T_plunderref2_Arena × T_plunderref2_Arena × T_cells_Arena) ⊕ (Bool))
  | 0, _, _, _, _, _ => none
  | k3 + 1, S337, S342, S347, S352, g357 => (if g357 < ((p2.length : Nat) : Int) then if inr_ g357 p2.length then ob5 (ob1 ((if p3 = true then some true else ob1 (plunderlaw2_mod (at_ p2 g357.toNat).Side 2) (fun r388 => some (r388 == 0)))) (fun g384 => (if g384 = true then ob3 (plunderlaw2_plays_nil K S337 (at_ p2 g357.toNat) S352) (fun r391 S392 S393 => some (S392, S342, S347, S393, r391)) else ob4 (plunderlaw2_plays K S347 S342 (at_ p2 g357.toNat) S352) (fun r403 S404 S405 S406 => some (S337, S405, S404, S406, r403))))) (fun S361 S366 S371 S376 g381 => (if g381 = true then (if p4 = true then ob1 (plunderlaw2_book_stands K S376) (fun r422 => (if r422 = true then (plunderlaw2_walk_l3 K p2 p3 p4 k3 S361 S366 S371 S376 (wi (g357 + 1))) else some (.inr false))) else (plunderlaw2_walk_l3 K p2 p3 p4 k3 S361 S366 S371 S376 (wi (g357 + 1)))) else some (.inr false))) else none else some (.inl (S337, S342, S347)))
def plunderlaw2_walk_l4 (K : Nat) (p2 : List T_plunderlaw2_Move) (p3 : Bool) (p4 : Bool) : Nat → T_plunderref2_Arena → T_plunderref2_Arena → T_plunderlaw2_book → Int → Option ((T_plunderref2_Arena × T_plunderref2_Arena) ⊕ (Bool))
  | 0, _, _, _, _ => none
  | k4 + 1, S444, S449, S454, g459 => (if g459 < ((p2.length : Nat) : Int) then if inr_ g459 p2.length then ob4 (ob1 ((if p3 = true then some true else ob1 (plunderlaw2_mod (at_ p2 g459.toNat).Side 2) (fun r485 => some (r485 == 0)))) (fun g481 => (if g481 = true then ob3 (plunderlaw2_plays_nil K S444 (at_ p2 g459.toNat) S454) (fun r488 S489 S490 => some (S489, S449, S490, r488)) else ob3 (plunderlaw2_plays_nil K S449 (at_ p2 g459.toNat) S454) (fun r500 S501 S502 => some (S444, S501, S502, r500))))) (fun S463 S468 S473 g478 => (if g478 = true then (if p4 = true then ob1 (plunderlaw2_book_stands K S473) (fun r514 => (if r514 = true then (plunderlaw2_walk_l4 K p2 p3 p4 k4 S463 S468 S473 (wi (g459 + 1))) else some (.inr false))) else (plunderlaw2_walk_l4 K p2 p3 p4 k4 S463 S468 S473 (wi (g459 + 1)))) else some (.inr false))) else none else some (.inl (S444, S449)))
/-- plunder/plunderlaw2.walk -/
def plunderlaw2_walk (K : Nat) (p0 : Int) (p1 : Int) (p2 : List T_plunderlaw2_Move) (p3 : Bool) (p4 : Bool) : Option (Bool) :=
  ob2 (plunderref2_New p0) (fun r1 r2 => ob2 (plunderref2_New p1) (fun r9 r10 => ob2 (cells_New p0) (fun r17 r18 => (match r17 with | some S20 => ob2 (cells_New p1) (fun r26 r27 => (match r26 with | some S29 => jn0 ((if r18 = r2 then (if r27 = r10 then (if false = (r2 != 0) then (if false = (r10 != 0) then some (.inl ()) else some (.inr false)) else some (.inr false)) else some (.inr false)) else some (.inr false))) (jn4 ((plunderlaw2_walk_l1 K p2 p3 p4 K r1 r9 S20 S29 (⟨([] : List T_plunderlaw2_kept), ([] : List T_plunderlaw2_noted), 0⟩ : T_plunderlaw2_book) 0)) (fun S42 S47 S52 S57 => jn0 (some (.inl ())) (ob1 (cells_Arena_Cells S52) (fun r169 => ob1 (plunderlaw2_sameNumbers K r169 S42.Held) (fun r172 => (if r172 = true then ob1 (cells_Arena_Cells S57) (fun r175 => ob1 (plunderlaw2_sameNumbers K r175 S47.Held) (fun r178 => (if r178 = true then ob1 (cells_Arena_Log S52) (fun r181 => ob1 (plunderlaw2_sameLog K r181 S42.Book) (fun r184 => (if r184 = true then ob1 (cells_Arena_Log S57) (fun r187 => ob1 (plunderlaw2_sameLog K r187 S47.Book) (fun r190 => some r190)) else some false))) else some false))) else some false)))))) | none => jn0 ((if r18 = r2 then (if r27 = r10 then (if false = (r2 != 0) then (if true = (r10 != 0) then some (.inl ()) else some (.inr false)) else some (.inr false)) else some (.inr false)) else some (.inr false))) (jn3 ((plunderlaw2_walk_l2 K p2 p3 p4 K r1 r9 S20 (⟨([] : List T_plunderlaw2_kept), ([] : List T_plunderlaw2_noted), 0⟩ : T_plunderlaw2_book) 0)) (fun S199 S204 S209 => some true)))) | none => ob2 (cells_New p1) (fun r304 r305 => (match r304 with | some S307 => jn0 ((if r18 = r2 then (if r305 = r10 then (if true = (r2 != 0) then (if false = (r10 != 0) then some (.inl ()) else some (.inr false)) else some (.inr false)) else some (.inr false)) else some (.inr false))) (jn3 ((plunderlaw2_walk_l3 K p2 p3 p4 K r1 r9 S307 (⟨([] : List T_plunderlaw2_kept), ([] : List T_plunderlaw2_noted), 0⟩ : T_plunderlaw2_book) 0)) (fun S320 S325 S330 => some true)) | none => jn0 ((if r18 = r2 then (if r305 = r10 then (if true = (r2 != 0) then (if true = (r10 != 0) then some (.inl ()) else some (.inr false)) else some (.inr false)) else some (.inr false)) else some (.inr false))) (jn2 ((plunderlaw2_walk_l4 K p2 p3 p4 K r1 r9 (⟨([] : List T_plunderlaw2_kept), ([] : List T_plunderlaw2_noted), 0⟩ : T_plunderlaw2_book) 0)) (fun S432 S437 => some true))))))))


end Go.Proofs.Ytacgigkonoegiaa.Mo
