/- what the functions compute, as plain Lean functions, and that they do -/
import Derived.Test.YtnghahgfcaolbaaFo3
namespace Go.Proofs.Ytnghahgfcaolbaa.Mo
open Go Go.RowKit Go.Proofs.Ytnghahgfcaolbaa.SL Go.Proofs.Ytnghahgfcaolbaa.GX
set_option linter.unusedVariables false
set_option linter.unusedSimpArgs false

set_option maxRecDepth 100000 in
set_option maxHeartbeats 4000000 in
theorem plunderlaw8_FramesOnce_ok {z w : World} {L : List HProp} {K : Nat} {p0 : List Int} {p1 : List Int} {va0 : Option Addr} {vc0 : Nat} {va1 : Option Addr} {vc1 : Nat} {r0 : Bool} (H : plunderlaw8_FramesOnce K p0 p1 = some r0) (h : Fit z (sepL (L)) w) (hv0 : RdRow L 1 encZ_i64 va0 p0) (hv1 : RdRow L 1 encZ_i64 va1 p1) (hc1 : p1.length ≤ vc1) :
    Calls Try.prog 11 #[.slice va0 p0.length vc0, .slice va1 p1.length vc1] w fun e w => e = .returned (vB r0) ∧ Fit z (sepL (L)) w := by
 unfold plunderlaw8_FramesOnce at H
 refine enter Try.func11 rfl 115 rfl rfl [(0, .slice va0 p0.length vc0), (1, .slice va1 p1.length vc1)] ⟨rfl, rfl, trivial⟩ ?_
 intro j a hr
 refine sr ?_
 refine o1 hr (vB false) fun a hr => ?_
 refine ln ?_
 refine sr ?_
 obtain ⟨r1, e2, H⟩ := bd1 H
 refine o1 hr (.slice va0 p0.length vc0) fun a hr => ?_
 have hc := plunderlaw8_tidy_ok (va0 := va0) (vc0 := vc0) (hv0 := (RdRow.up 0 hv0)) (H := e2) (h := h)
 refine cl (wn rfl) hr hc ?_; clear hc h
 rintro _ w ⟨car3, ccr4, rfl, h⟩; refine ⟨_, rfl, fun a hr => ?_⟩
 refine o1 hr (.slice car3 r1.length ccr4) fun a hr => ?_
 refine ln ?_
 refine sr ?_
 refine oo [15, 16] [.slice car3 r1.length ccr4, .slice va1 p1.length vc1] hr fun a hr => ?_
 refine op_inl (wn rfl) rfl rfl hr (f := 50) (args := #[.slice va1 p1.length vc1]) (by kernel_rfl) ?_; clear hr a
 refine enter Try.func50 rfl 9 rfl rfl [(0, .slice va1 p1.length vc1)] ⟨by kernel_rfl, trivial⟩ ?_; intro j a hr
 refine sr ?_
 refine o1 hr (.slice none 0 0) fun a hr => ?_
 refine ln ?_
 refine wp_seq ?_
 refine sr ?_
 refine oo [3, 4, 5] [.slice va1 p1.length vc1, vI ((p1.length : Nat) : Int), vB (decide (((p1.length : Nat) : Int) > 1048576))] hr fun a hr => ?_
 refine ln ?_
 by_cases c5 : ((p1.length : Nat) : Int) > 1048576
 ·
  replace H := ifT c5 H
  refine cond_tt hr (decide_eq_true c5) ?_
  refine sr ?_
  obtain ⟨c6, H⟩ := gd H
  refine o1 hr (.slice va1 p1.length vc1) fun a hr => ?_
  refine opv (wn rfl) hr (.slice va1 (p1.take 1048576).length vc1) (rslr (k := .i64) (E := 3) (sz := 1) (xs := p1) rfl (by kernel_rfl) (by kernel_rfl) (by kernel_rfl) (by kernel_rfl) hc1 c6) fun a hr => ?_
  refine o1 hr (.slice va1 (p1.take 1048576).length vc1) fun a hr => ?_
  refine ln ?_
  refine wp_ret ?_
  refine then_ret ?_
  refine end_ret1 (v := .slice va1 (p1.take 1048576).length vc1) rfl hr (by kernel_rfl) ?_
  refine ⟨_, rfl, ?_⟩; clear hr a; intro a hr
  obtain ⟨r7, r8, e9, H⟩ := bd2 H
  have hc := frames_Play_ok (va0 := car3) (vc0 := ccr4) (va1 := va1) (vc1 := vc1) (hv0 := (RdRow.of_row encZ_i64_ok h (fun h => h))) (hv1 := (RdRow.up 1 (RdRow.take hv1 _))) (H := e9) (h := h)
  refine cl (wn rfl) hr hc ?_; clear hc h
  rintro _ w ⟨car10, ccr11, car12, ccr13, car14, ccr15, car16, rfl, h⟩; refine ⟨_, rfl, fun a hr => ?_⟩
  refine oo [14, 19, 20] [.tuple #[.agg #[vB r7.Done, vI r7.Steps, .slice car10 r7.Holders.length ccr11, .slice car12 r7.Reads.length ccr13, .slice car14 r7.Marks.length ccr15, .slice car16 r7.Log.length r7.Log.length], vI r8], .agg #[vB r7.Done, vI r7.Steps, .slice car10 r7.Holders.length ccr11, .slice car12 r7.Reads.length ccr13, .slice car14 r7.Marks.length ccr15, .slice car16 r7.Log.length r7.Log.length], vI r8] hr fun a hr => ?_
  refine onew (wn rfl) hr h nb (#[vB false, vI 0, .slice none 0 0, .slice none 0 0, .slice none 0 0, .slice none 0 0]) 86 fun b17 w a h hr => ?_
  refine stos (wn rfl) hr h 0 ([vB r7.Done, vI r7.Steps, .slice car10 r7.Holders.length ccr11, .slice car12 r7.Reads.length ccr13, .slice car14 r7.Marks.length ccr15, .slice car16 r7.Log.length r7.Log.length]) (#[vB r7.Done, vI r7.Steps, .slice car10 r7.Holders.length ccr11, .slice car12 r7.Reads.length ccr13, .slice car14 r7.Marks.length ccr15, .slice car16 r7.Log.length r7.Log.length]) fun w h => ?_
  refine o1 hr (vI r8) fun a hr => ?_
  refine wpList_nil ?_
  replace h : Fit z (sepL (ob86 b17 r7 car10 ccr11 car12 ccr13 car14 ccr15 car16 r7.Log.length :: ro3 car10 ccr11 r7.Holders :: rn31 car12 ccr13 r7.Reads :: ro2 car14 ccr15 r7.Marks :: ro96 car16 r7.Log.length r7.Log :: ro3 car3 ccr4 r1 :: L)) _ := h
  refine then_normal ?_
  obtain ⟨o19, H, hK18⟩ := jd0 H
  refine cut_rule (β := Unit) (fun _ a w => .inl () = o19 ∧ ∃ j, Rep 115 (lk [(6, pA b17 0)] j) a ∧ Fit z (sepL (ob86 b17 r7 car10 ccr11 car12 ccr13 car14 ccr15 car16 r7.Log.length :: ro3 car10 ccr11 r7.Holders :: rn31 car12 ccr13 r7.Reads :: ro2 car14 ccr15 r7.Marks :: ro96 car16 r7.Log.length r7.Log :: L)) w) ?_ ?_
  ·
   refine sr ?_
   refine oo [21, 22, 23] [vI r8, vB (r8 != 0), vB (r8 != 0)] hr fun a hr => ?_
   by_cases c20 : r8 = 0
   ·
    replace H := ifT c20 H
    refine opv (wgt hr (bne_eq_false_iff_eq.mpr c20)) hr (pA b17 5) (by kernel_rfl) fun a hr => ?_
    refine ld (wgt hr (bne_eq_false_iff_eq.mpr c20)) hr (.slice car16 r7.Log.length r7.Log.length) (h.cell 5 rfl) fun a hr => ?_
    refine opv (wgt hr (bne_eq_false_iff_eq.mpr c20)) hr (vI ((r7.Log.length : Nat) : Int)) (by kernel_rfl) fun a hr => ?_
    refine opv (wgt hr (bne_eq_false_iff_eq.mpr c20)) hr (pA b17 1) (by kernel_rfl) fun a hr => ?_
    refine ld (wgt hr (bne_eq_false_iff_eq.mpr c20)) hr (vI r7.Steps) (h.cell 1 rfl) fun a hr => ?_
    refine opv (wgt hr (bne_eq_false_iff_eq.mpr c20)) hr (vB (((r7.Log.length : Nat) : Int) != r7.Steps)) (by kernel_rfl) fun a hr => ?_
    refine opv (wn rfl) hr (vB (((r7.Log.length : Nat) : Int) != r7.Steps)) (rp_f (b := (r8 != 0)) rfl (by kernel_rfl) (bne_eq_false_iff_eq.mpr c20) (by kernel_rfl)) fun a hr => ?_
    refine o1 hr (vB (((r7.Log.length : Nat) : Int) != r7.Steps)) fun a hr => ?_
    by_cases c21 : ((r7.Log.length : Nat) : Int) = r7.Steps
    ·
     replace H := ifT c21 H
     refine opv (wgt hr (bne_eq_false_iff_eq.mpr c21)) hr (.slice va1 p1.length vc1) (by kernel_rfl) fun a hr => ?_
     refine opv (wgt hr (bne_eq_false_iff_eq.mpr c21)) hr (vI ((p1.length : Nat) : Int)) (by kernel_rfl) fun a hr => ?_
     refine opv (wgt hr (bne_eq_false_iff_eq.mpr c21)) hr (.slice car3 r1.length ccr4) (by kernel_rfl) fun a hr => ?_
     obtain ⟨r22, e23, H⟩ := bd1 H
     have hc := plunderlaw8_length_ok (va0 := car3) (vc0 := ccr4) (hv0 := (RdRow.of_row encZ_i64_ok (h.pick 5) (fun h => (h.pick 5)))) (H := e23) (h := h)
     refine cl (wgt hr (bne_eq_false_iff_eq.mpr c21)) hr hc ?_; clear hc h
     rintro _ w ⟨rfl, h⟩; refine ⟨_, rfl, fun a hr => ?_⟩
     refine opv (wgt hr (bne_eq_false_iff_eq.mpr c21)) hr (vB (decide (((p1.length : Nat) : Int) ≥ r22))) (by kernel_rfl) fun a hr => ?_
     refine opv (wgt hr (bne_eq_false_iff_eq.mpr c21)) hr (vB (decide (((p1.length : Nat) : Int) ≥ r22))) (by kernel_rfl) fun a hr => ?_
     by_cases c24 : ((p1.length : Nat) : Int) ≥ r22
     ·
      replace H := ifT c24 H
      refine opv (wgt hr (decide_eq_true c24)) hr (pA b17 0) (by kernel_rfl) fun a hr => ?_
      refine ld (wgt hr (decide_eq_true c24)) hr (vB r7.Done) (h.cell 0 rfl) fun a hr => ?_
      refine opv (wgt hr (decide_eq_true c24)) hr (vB (!r7.Done)) (by kernel_rfl) fun a hr => ?_
      refine opv (wgt hr (bne_eq_false_iff_eq.mpr c21)) hr (vB (!r7.Done)) (rp_t (b := (decide (((p1.length : Nat) : Int) ≥ r22))) rfl (by kernel_rfl) (decide_eq_true c24) (by kernel_rfl)) fun a hr => ?_
      refine opv (wn rfl) hr (vB (!r7.Done)) (rp_f (b := (((r7.Log.length : Nat) : Int) != r7.Steps)) rfl (by kernel_rfl) (bne_eq_false_iff_eq.mpr c21) (by kernel_rfl)) fun a hr => ?_
      refine ln ?_
      by_cases c25 : r7.Done = true
      ·
       replace H := ifT c25 H
       refine cond_ff hr (b := (!r7.Done)) (by rw [show r7.Done = true from (c25)]; rfl) ?_
       refine wp_skip ?_
       refine then_normal ?_
       replace hr := hr.fold2 [(6, pA b17 0)] (by kernel_rfl); obtain ⟨j, hr⟩ := hr
       replace h : Fit z (sepL (ob86 b17 r7 car10 ccr11 car12 ccr13 car14 ccr15 car16 r7.Log.length :: ro3 car10 ccr11 r7.Holders :: rn31 car12 ccr13 r7.Reads :: ro2 car14 ccr15 r7.Marks :: ro96 car16 r7.Log.length r7.Log :: L)) _ := h.sel 6 [0, 1, 2, 3, 4] (by kernel_rfl) (by kernel_rfl)
       exact ⟨(), sinj H, j, hr, h⟩
      ·
       replace H := ifF c25 H
       refine cond_tt hr (b := (!r7.Done)) (by rw [show r7.Done = false from (bF c25)]; rfl) ?_
       refine sr ?_
       refine o1 hr (vB false) fun a hr => ?_
       refine ln ?_
       refine wp_ret ?_
       refine then_ret ?_
       refine end_ret1 (v := vB false) rfl hr (by kernel_rfl) ?_
       replace H := jx0 H hK18
       replace h : Fit z (sepL (L)) _ := h.sel 6 [] (by kernel_rfl) (by kernel_rfl)
       replace H := ej1 H; subst H
       exact ⟨rfl, h⟩
     ·
      replace H := ifF c24 H
      refine offg (wgt hr (decide_eq_false c24)) hr fun a hr => ?_
      refine offg (wgt hr (decide_eq_false c24)) hr fun a hr => ?_
      refine offg (wgt hr (decide_eq_false c24)) hr fun a hr => ?_
      refine opv (wgt hr (bne_eq_false_iff_eq.mpr c21)) hr (vB false) (rp_f (b := (decide (((p1.length : Nat) : Int) ≥ r22))) rfl (by kernel_rfl) (decide_eq_false c24) (by kernel_rfl)) fun a hr => ?_
      refine opv (wn rfl) hr (vB false) (rp_f (b := (((r7.Log.length : Nat) : Int) != r7.Steps)) rfl (by kernel_rfl) (bne_eq_false_iff_eq.mpr c21) (by kernel_rfl)) fun a hr => ?_
      refine ln ?_
      refine cond_ff hr (b := false) rfl ?_
      refine wp_skip ?_
      refine then_normal ?_
      replace hr := hr.fold2 [(6, pA b17 0)] (by kernel_rfl); obtain ⟨j, hr⟩ := hr
      replace h : Fit z (sepL (ob86 b17 r7 car10 ccr11 car12 ccr13 car14 ccr15 car16 r7.Log.length :: ro3 car10 ccr11 r7.Holders :: rn31 car12 ccr13 r7.Reads :: ro2 car14 ccr15 r7.Marks :: ro96 car16 r7.Log.length r7.Log :: L)) _ := h.sel 6 [0, 1, 2, 3, 4] (by kernel_rfl) (by kernel_rfl)
      exact ⟨(), sinj H, j, hr, h⟩
    ·
     replace H := ifF c21 H
     refine offg (wgt hr (bne_iff_ne.mpr c21)) hr fun a hr => ?_
     refine offg (wgt hr (bne_iff_ne.mpr c21)) hr fun a hr => ?_
     refine offg (wgt hr (bne_iff_ne.mpr c21)) hr fun a hr => ?_
     refine offg (wgt hr (bne_iff_ne.mpr c21)) hr fun a hr => ?_
     refine offg (wgt hr (bne_iff_ne.mpr c21)) hr fun a hr => ?_
     refine offg (wgt hr (bne_iff_ne.mpr c21)) hr fun a hr => ?_
     refine offg (wg_undef hr rfl rfl rfl (by kernel_rfl)) hr fun a hr => ?_
     refine offg (wg_undef hr rfl rfl rfl (by kernel_rfl)) hr fun a hr => ?_
     refine offg (wg_undef hr rfl rfl rfl (by kernel_rfl)) hr fun a hr => ?_
     refine offg (wgt hr (bne_iff_ne.mpr c21)) hr fun a hr => ?_
     refine opv (wn rfl) hr (vB true) (rp_t (b := (((r7.Log.length : Nat) : Int) != r7.Steps)) rfl (by kernel_rfl) (bne_iff_ne.mpr c21) (by kernel_rfl)) fun a hr => ?_
     refine ln ?_
     refine cond_tt hr (b := true) rfl ?_
     refine sr ?_
     refine o1 hr (vB false) fun a hr => ?_
     refine ln ?_
     refine wp_ret ?_
     refine then_ret ?_
     refine end_ret1 (v := vB false) rfl hr (by kernel_rfl) ?_
     replace H := jx0 H hK18
     replace h : Fit z (sepL (L)) _ := h.sel 6 [] (by kernel_rfl) (by kernel_rfl)
     replace H := ej1 H; subst H
     exact ⟨rfl, h⟩
   ·
    replace H := ifF c20 H
    refine offg (wgt hr (bne_iff_ne.mpr c20)) hr fun a hr => ?_
    refine offg (wgt hr (bne_iff_ne.mpr c20)) hr fun a hr => ?_
    refine offg (wgt hr (bne_iff_ne.mpr c20)) hr fun a hr => ?_
    refine offg (wgt hr (bne_iff_ne.mpr c20)) hr fun a hr => ?_
    refine offg (wgt hr (bne_iff_ne.mpr c20)) hr fun a hr => ?_
    refine offg (wgt hr (bne_iff_ne.mpr c20)) hr fun a hr => ?_
    refine opv (wn rfl) hr (vB true) (rp_t (b := (r8 != 0)) rfl (by kernel_rfl) (bne_iff_ne.mpr c20) (by kernel_rfl)) fun a hr => ?_
    refine o1 hr (vB true) fun a hr => ?_
    refine offg (wgt hr (c := true) rfl) hr fun a hr => ?_
    refine offg (wgt hr (c := true) rfl) hr fun a hr => ?_
    refine offg (wgt hr (c := true) rfl) hr fun a hr => ?_
    refine offg (wgt hr (c := true) rfl) hr fun a hr => ?_
    refine offg (wgt hr (c := true) rfl) hr fun a hr => ?_
    refine offg (wgt hr (c := true) rfl) hr fun a hr => ?_
    refine offg (wg_undef hr rfl rfl rfl (by kernel_rfl)) hr fun a hr => ?_
    refine offg (wg_undef hr rfl rfl rfl (by kernel_rfl)) hr fun a hr => ?_
    refine offg (wg_undef hr rfl rfl rfl (by kernel_rfl)) hr fun a hr => ?_
    refine offg (wgt hr (c := true) rfl) hr fun a hr => ?_
    refine o1 hr (vB true) fun a hr => ?_
    refine ln ?_
    refine cond_tt hr (b := true) rfl ?_
    refine sr ?_
    refine o1 hr (vB false) fun a hr => ?_
    refine ln ?_
    refine wp_ret ?_
    refine then_ret ?_
    refine end_ret1 (v := vB false) rfl hr (by kernel_rfl) ?_
    replace H := jx0 H hK18
    replace h : Fit z (sepL (L)) _ := h.sel 6 [] (by kernel_rfl) (by kernel_rfl)
    replace H := ej1 H; subst H
    exact ⟨rfl, h⟩
  clear h hr a; rintro _ a w ⟨rfl, j, hr, h⟩
  replace H := jk0 hK18
  refine sr ?_
  refine o1 hr (vI 0) fun a hr => ?_
  refine ln ?_
  refine sr ?_
  refine o1 hr (vI (-1)) fun a hr => ?_
  refine ln ?_
  refine wp_seq ?_
  refine sr ?_
  refine o1 hr (vI 0) fun a hr => ?_
  refine ln ?_
  refine wp_block ?_
  replace hr := hr.fold2 [(6, pA b17 0), (8, vI 0), (9, vI (-1)), (10, vI 0)] (by kernel_rfl); obtain ⟨j, hr⟩ := hr
  refine loop_rule (β := Nat) id (fun m a w => ∃ g26 : Int, ∃ g27 : Int, ∃ g28 : Int, (plunderlaw8_FramesOnce_l1 K r7 m g26 g27 g28) = some r0 ∧ ∃ j, Rep 115 (lk [(6, pA b17 0), (8, vI g26), (9, vI g27), (10, vI g28)] j) a ∧ Fit z (sepL (ob86 b17 r7 car10 ccr11 car12 ccr13 car14 ccr15 car16 r7.Log.length :: ro3 car10 ccr11 r7.Holders :: rn31 car12 ccr13 r7.Reads :: ro2 car14 ccr15 r7.Marks :: ro96 car16 r7.Log.length r7.Log :: L)) w) K ⟨0, -1, 0, H, j, hr, h⟩ ?_
  clear h hr a H; rintro k1 a w ⟨g26, g27, g28, H, j, hr, h⟩
  cases k1 with
  | zero => exact absurd H (by simp [plunderlaw8_FramesOnce_l1])
  | succ k1 =>
   rw [plunderlaw8_FramesOnce_l1] at H
   refine wp_seq ?_
   refine sr ?_
   refine oo [43, 44] [vI g28, pA b17 5] hr fun a hr => ?_
   refine ld (wn rfl) hr (.slice car16 r7.Log.length r7.Log.length) (h.cell 5 rfl) fun a hr => ?_
   refine oo [46, 47] [vI ((r7.Log.length : Nat) : Int), vB (decide (g28 < ((r7.Log.length : Nat) : Int)))] hr fun a hr => ?_
   refine ln ?_
   by_cases c29 : g28 < ((r7.Log.length : Nat) : Int)
   ·
    replace H := ifT c29 H
    refine cond_tt hr (decide_eq_true c29) ?_
    refine wp_skip ?_
    refine then_normal ?_
    refine wp_seq ?_
    refine wp_block ?_
    refine sr ?_
    refine o1 hr (pA b17 5) fun a hr => ?_
    refine ld (wn rfl) hr (.slice car16 r7.Log.length r7.Log.length) (h.cell 5 rfl) fun a hr => ?_
    obtain ⟨c30, H⟩ := gd H
    refine o1 hr (vI g28) fun a hr => ?_
    refine opv (wn rfl) hr (pA (blk car16) (g28.toNat * 6)) (ri_row (k := .i64) (E := 96) rfl (by kernel_rfl) (by kernel_rfl) (by kernel_rfl) (by kernel_rfl) (h.pick 4) c30) fun a hr => ?_
    refine ldm (wn rfl) hr (ag_T_api_Access (at_ r7.Log g28.toNat)) (cs := cl_T_api_Access (at_ r7.Log g28.toNat)) ⟨(h.pick 4).row_cell enc_T_api_Access_ok (f := 0) (at_ok c30) rfl, (h.pick 4).row_cell enc_T_api_Access_ok (f := 1) (at_ok c30) rfl, (h.pick 4).row_cell enc_T_api_Access_ok (f := 2) (at_ok c30) rfl, (h.pick 4).row_cell enc_T_api_Access_ok (f := 3) (at_ok c30) rfl, (h.pick 4).row_cell enc_T_api_Access_ok (f := 4) (at_ok c30) rfl, (h.pick 4).row_cell enc_T_api_Access_ok (f := 5) (at_ok c30) rfl, trivial⟩ fun a hr => ?_
    refine onew (wn rfl) hr h nb (#[vI 0, vI 0, vI 0, vI 0, vI 0, vB false]) 96 fun b31 w a h hr => ?_
    refine stos (wn rfl) hr h 0 (cl_T_api_Access (at_ r7.Log g28.toNat)) (ca_T_api_Access (at_ r7.Log g28.toNat)) fun w h => ?_
    refine wpList_nil ?_
    replace h : Fit z (sepL (ob96 b31 (at_ r7.Log g28.toNat) :: ob86 b17 r7 car10 ccr11 car12 ccr13 car14 ccr15 car16 r7.Log.length :: ro3 car10 ccr11 r7.Holders :: rn31 car12 ccr13 r7.Reads :: ro2 car14 ccr15 r7.Marks :: ro96 car16 r7.Log.length r7.Log :: L)) _ := h
    refine then_normal ?_
    refine wp_seq ?_
    refine sr ?_
    refine o1 hr (pA b31 2) fun a hr => ?_
    refine ld (wn rfl) hr (vI (at_ r7.Log g28.toNat).Addr) (h.cell 2 rfl) fun a hr => ?_
    refine o1 hr (vB ((at_ r7.Log g28.toNat).Addr != 1)) fun a hr => ?_
    refine ln ?_
    by_cases c32 : (at_ r7.Log g28.toNat).Addr = 1
    ·
     replace H := ifT c32 H
     refine cond_ff hr (bne_eq_false_iff_eq.mpr c32) ?_
     refine wp_skip ?_
     refine then_normal ?_
     refine wp_seq ?_
     refine sr ?_
     refine o1 hr (pA b31 1) fun a hr => ?_
     refine ld (wn rfl) hr (vI (at_ r7.Log g28.toNat).Kind) (h.cell 1 rfl) fun a hr => ?_
     refine o1 hr (vB ((at_ r7.Log g28.toNat).Kind == 1)) fun a hr => ?_
     refine ln ?_
     by_cases c33 : (at_ r7.Log g28.toNat).Kind = 1
     ·
      replace H := ifT c33 H
      refine cond_tt hr (beq_iff_eq.mpr c33) ?_
      refine wp_seq ?_
      refine wp_seq ?_
      by_cases c34 : (at_ r7.Log g28.toNat).Who = g27
      ·
       replace H := ifT c34 H
       by_cases c35 : (at_ r7.Log g28.toNat).A = 1
       ·
        replace H := ifT c35 H
        by_cases c36 : g26 ≥ ((r7.Holders.length : Nat) : Int)
        ·
         replace H := ifT c36 H
         refine reg_E (fun w => heldC w b31 0 ([vI (at_ r7.Log g28.toNat).Who]) ∧ heldC w b31 3 ([vI (at_ r7.Log g28.toNat).A]) ∧ heldC w b17 2 ([.slice car10 r7.Holders.length ccr11]) ∧ True) [0, 3, 5, 7, 11] h (by kernel_rfl) ?_; intro w h
         change wpAnyE _ _ _ _ _ _ 26 (Array.replicate 26 false) a w
         have hgo : ∀ w w', CellsGo w w' → (heldC w b31 0 ([vI (at_ r7.Log g28.toNat).Who]) ∧ heldC w b31 3 ([vI (at_ r7.Log g28.toNat).A]) ∧ heldC w b17 2 ([.slice car10 r7.Holders.length ccr11]) ∧ True) → heldC w' b31 0 ([vI (at_ r7.Log g28.toNat).Who]) ∧ heldC w' b31 3 ([vI (at_ r7.Log g28.toNat).A]) ∧ heldC w' b17 2 ([.slice car10 r7.Holders.length ccr11]) ∧ True := fun w w' g hD => ⟨heldC_go _ _ _ _ _ g hD.1, heldC_go _ _ _ _ _ g hD.2.1, heldC_go _ _ _ _ _ g hD.2.2.1, trivial⟩
         refine evDs hgo ⟨⟨h.cell 0 rfl, trivial⟩, ⟨h.cell 3 rfl, trivial⟩, ⟨(h.pick 1).cell 2 rfl, trivial⟩, trivial⟩ 25 0 rfl (wn rfl) hr (pA b31 0) fun a hr => ?_
         refine evs 24 2 rfl (wn rfl) hr (vI g27) fun a hr => ?_
         refine el [0, 3, 5, 7, 11] (b := b31) (off := 0) (cs := [vI (at_ r7.Log g28.toNat).Who]) (fun _ hk => ⟨hk, fun w hD => hD.1⟩) 23 1 rfl (by kernel_rfl) (wn rfl) hr (vI (at_ r7.Log g28.toNat).Who) ⟨h.cell 0 rfl, trivial⟩ (fun w hc => rl rfl (by kernel_rfl) (by kernel_rfl) hc.1) fun a hr => ?_
         refine evDs hgo ⟨⟨h.cell 0 rfl, trivial⟩, ⟨h.cell 3 rfl, trivial⟩, ⟨(h.pick 1).cell 2 rfl, trivial⟩, trivial⟩ 22 3 rfl (wn rfl) hr (vB ((at_ r7.Log g28.toNat).Who != g27)) fun a hr => ?_
         refine evs 21 4 rfl (wn rfl) hr (vB ((at_ r7.Log g28.toNat).Who != g27)) fun a hr => ?_
         refine evDs hgo ⟨⟨h.cell 0 rfl, trivial⟩, ⟨h.cell 3 rfl, trivial⟩, ⟨(h.pick 1).cell 2 rfl, trivial⟩, trivial⟩ 20 5 rfl (wgt hr (bne_eq_false_iff_eq.mpr c34)) hr (pA b31 3) fun a hr => ?_
         refine el [0, 3, 5, 7, 11] (b := b31) (off := 3) (cs := [vI (at_ r7.Log g28.toNat).A]) (fun _ hk => ⟨hk, fun w hD => hD.2.1⟩) 19 6 rfl (by kernel_rfl) (wgt hr (bne_eq_false_iff_eq.mpr c34)) hr (vI (at_ r7.Log g28.toNat).A) ⟨h.cell 3 rfl, trivial⟩ (fun w hc => rl rfl (by kernel_rfl) (by kernel_rfl) hc.1) fun a hr => ?_
         refine evDs hgo ⟨⟨h.cell 0 rfl, trivial⟩, ⟨h.cell 3 rfl, trivial⟩, ⟨(h.pick 1).cell 2 rfl, trivial⟩, trivial⟩ 18 7 rfl (wgt hr (bne_eq_false_iff_eq.mpr c34)) hr (vB ((at_ r7.Log g28.toNat).A != 1)) fun a hr => ?_
         refine ev 17 8 rfl (by kernel_rfl) (wn rfl) hr (vB ((at_ r7.Log g28.toNat).A != 1)) (fun w => rp_f (b := ((at_ r7.Log g28.toNat).Who != g27)) rfl (by kernel_rfl) (bne_eq_false_iff_eq.mpr c34) (by kernel_rfl)) fun a hr => ?_
         refine evs 16 9 rfl (wn rfl) hr (vB ((at_ r7.Log g28.toNat).A != 1)) fun a hr => ?_
         refine evs 15 10 rfl (wgt hr (bne_eq_false_iff_eq.mpr c35)) hr (vI g26) fun a hr => ?_
         refine evDs hgo ⟨⟨h.cell 0 rfl, trivial⟩, ⟨h.cell 3 rfl, trivial⟩, ⟨(h.pick 1).cell 2 rfl, trivial⟩, trivial⟩ 14 11 rfl (wgt hr (bne_eq_false_iff_eq.mpr c35)) hr (pA b17 2) fun a hr => ?_
         refine el [0, 3, 5, 7, 11] (b := b17) (off := 2) (cs := [.slice car10 r7.Holders.length ccr11]) (fun _ hk => ⟨hk, fun w hD => hD.2.2.1⟩) 13 12 rfl (by kernel_rfl) (wgt hr (bne_eq_false_iff_eq.mpr c35)) hr (.slice car10 r7.Holders.length ccr11) ⟨(h.pick 1).cell 2 rfl, trivial⟩ (fun w hc => rl rfl (by kernel_rfl) (by kernel_rfl) hc.1) fun a hr => ?_
         refine evs 12 13 rfl (wgt hr (bne_eq_false_iff_eq.mpr c35)) hr (vI ((r7.Holders.length : Nat) : Int)) fun a hr => ?_
         refine evs 11 14 rfl (wgt hr (bne_eq_false_iff_eq.mpr c35)) hr (vB (decide (g26 ≥ ((r7.Holders.length : Nat) : Int)))) fun a hr => ?_
         refine ev 10 15 rfl (by kernel_rfl) (wn rfl) hr (vB (decide (g26 ≥ ((r7.Holders.length : Nat) : Int)))) (fun w => rp_f (b := ((at_ r7.Log g28.toNat).A != 1)) rfl (by kernel_rfl) (bne_eq_false_iff_eq.mpr c35) (by kernel_rfl)) fun a hr => ?_
         refine evs 9 16 rfl (wn rfl) hr (vB (decide (g26 ≥ ((r7.Holders.length : Nat) : Int)))) fun a hr => ?_
         refine eos 8 17 rfl (wgt hr (decide_eq_true c36)) hr fun a hr => ?_
         refine eos 7 19 rfl (wgt hr (decide_eq_true c36)) hr fun a hr => ?_
         refine eos 6 22 rfl (wgt hr (decide_eq_true c36)) hr fun a hr => ?_
         refine eos 5 18 rfl (wgt hr (decide_eq_true c36)) hr fun a hr => ?_
         refine eos 4 20 rfl (wgt hr (decide_eq_true c36)) hr fun a hr => ?_
         refine eos 3 21 rfl (wgt hr (decide_eq_true c36)) hr fun a hr => ?_
         refine eos 2 23 rfl (wgt hr (decide_eq_true c36)) hr fun a hr => ?_
         refine eos 1 24 rfl (wgt hr (decide_eq_true c36)) hr fun a hr => ?_
         refine ev 0 25 rfl (by kernel_rfl) (wn rfl) hr (vB true) (fun w => rp_t (b := (decide (g26 ≥ ((r7.Holders.length : Nat) : Int)))) rfl (by kernel_rfl) (decide_eq_true c36) (by kernel_rfl)) fun a hr => ?_
         refine e_end (by kernel_rfl) ?_
         refine then_normal ?_
         refine cond_tt hr (b := true) rfl ?_
         refine sr ?_
         refine o1 hr (vB false) fun a hr => ?_
         refine ln ?_
         refine wp_ret ?_
         refine then_ret ?_
         refine then_ret ?_
         refine blk_ret ?_
         refine then_ret ?_
         refine then_ret ?_
         refine blk_ret ?_
         refine then_ret ?_
         refine end_ret1 (v := vB false) rfl hr (by kernel_rfl) ?_
         replace h : Fit z (sepL (L)) _ := h.sel 6 [] (by kernel_rfl) (by kernel_rfl)
         replace H := ej1 H; subst H
         exact ⟨rfl, h⟩
        ·
         replace H := ifF c36 H
         obtain ⟨c37, H⟩ := gd H
         refine reg_E (fun w => heldC w b31 0 ([vI (at_ r7.Log g28.toNat).Who]) ∧ heldC w b31 3 ([vI (at_ r7.Log g28.toNat).A]) ∧ heldC w b17 2 ([.slice car10 r7.Holders.length ccr11]) ∧ heldC w b17 2 ([.slice car10 r7.Holders.length ccr11]) ∧ heldC w (blk car10) (g26.toNat * 1) ([vI (at_ r7.Holders g26.toNat)]) ∧ heldC w b31 0 ([vI (at_ r7.Log g28.toNat).Who]) ∧ True) [0, 3, 5, 7, 11, 13, 14, 17, 20, 22] h (by kernel_rfl) ?_; intro w h
         change wpAnyE _ _ _ _ _ _ 26 (Array.replicate 26 false) a w
         have hgo : ∀ w w', CellsGo w w' → (heldC w b31 0 ([vI (at_ r7.Log g28.toNat).Who]) ∧ heldC w b31 3 ([vI (at_ r7.Log g28.toNat).A]) ∧ heldC w b17 2 ([.slice car10 r7.Holders.length ccr11]) ∧ heldC w b17 2 ([.slice car10 r7.Holders.length ccr11]) ∧ heldC w (blk car10) (g26.toNat * 1) ([vI (at_ r7.Holders g26.toNat)]) ∧ heldC w b31 0 ([vI (at_ r7.Log g28.toNat).Who]) ∧ True) → heldC w' b31 0 ([vI (at_ r7.Log g28.toNat).Who]) ∧ heldC w' b31 3 ([vI (at_ r7.Log g28.toNat).A]) ∧ heldC w' b17 2 ([.slice car10 r7.Holders.length ccr11]) ∧ heldC w' b17 2 ([.slice car10 r7.Holders.length ccr11]) ∧ heldC w' (blk car10) (g26.toNat * 1) ([vI (at_ r7.Holders g26.toNat)]) ∧ heldC w' b31 0 ([vI (at_ r7.Log g28.toNat).Who]) ∧ True := fun w w' g hD => ⟨heldC_go _ _ _ _ _ g hD.1, heldC_go _ _ _ _ _ g hD.2.1, heldC_go _ _ _ _ _ g hD.2.2.1, heldC_go _ _ _ _ _ g hD.2.2.2.1, heldC_go _ _ _ _ _ g hD.2.2.2.2.1, heldC_go _ _ _ _ _ g hD.2.2.2.2.2.1, trivial⟩
         refine evDs hgo ⟨⟨h.cell 0 rfl, trivial⟩, ⟨h.cell 3 rfl, trivial⟩, ⟨(h.pick 1).cell 2 rfl, trivial⟩, ⟨(h.pick 1).cell 2 rfl, trivial⟩, ⟨(h.pick 2).row_cell encZ_i64_ok (f := 0) (at_ok c37) rfl, trivial⟩, ⟨h.cell 0 rfl, trivial⟩, trivial⟩ 25 0 rfl (wn rfl) hr (pA b31 0) fun a hr => ?_
         refine evs 24 2 rfl (wn rfl) hr (vI g27) fun a hr => ?_
         refine el [0, 3, 5, 7, 11, 13, 14, 17, 20, 22] (b := b31) (off := 0) (cs := [vI (at_ r7.Log g28.toNat).Who]) (fun _ hk => ⟨hk, fun w hD => hD.1⟩) 23 1 rfl (by kernel_rfl) (wn rfl) hr (vI (at_ r7.Log g28.toNat).Who) ⟨h.cell 0 rfl, trivial⟩ (fun w hc => rl rfl (by kernel_rfl) (by kernel_rfl) hc.1) fun a hr => ?_
         refine evDs hgo ⟨⟨h.cell 0 rfl, trivial⟩, ⟨h.cell 3 rfl, trivial⟩, ⟨(h.pick 1).cell 2 rfl, trivial⟩, ⟨(h.pick 1).cell 2 rfl, trivial⟩, ⟨(h.pick 2).row_cell encZ_i64_ok (f := 0) (at_ok c37) rfl, trivial⟩, ⟨h.cell 0 rfl, trivial⟩, trivial⟩ 22 3 rfl (wn rfl) hr (vB ((at_ r7.Log g28.toNat).Who != g27)) fun a hr => ?_
         refine evs 21 4 rfl (wn rfl) hr (vB ((at_ r7.Log g28.toNat).Who != g27)) fun a hr => ?_
         refine evDs hgo ⟨⟨h.cell 0 rfl, trivial⟩, ⟨h.cell 3 rfl, trivial⟩, ⟨(h.pick 1).cell 2 rfl, trivial⟩, ⟨(h.pick 1).cell 2 rfl, trivial⟩, ⟨(h.pick 2).row_cell encZ_i64_ok (f := 0) (at_ok c37) rfl, trivial⟩, ⟨h.cell 0 rfl, trivial⟩, trivial⟩ 20 5 rfl (wgt hr (bne_eq_false_iff_eq.mpr c34)) hr (pA b31 3) fun a hr => ?_
         refine el [0, 3, 5, 7, 11, 13, 14, 17, 20, 22] (b := b31) (off := 3) (cs := [vI (at_ r7.Log g28.toNat).A]) (fun _ hk => ⟨hk, fun w hD => hD.2.1⟩) 19 6 rfl (by kernel_rfl) (wgt hr (bne_eq_false_iff_eq.mpr c34)) hr (vI (at_ r7.Log g28.toNat).A) ⟨h.cell 3 rfl, trivial⟩ (fun w hc => rl rfl (by kernel_rfl) (by kernel_rfl) hc.1) fun a hr => ?_
         refine evDs hgo ⟨⟨h.cell 0 rfl, trivial⟩, ⟨h.cell 3 rfl, trivial⟩, ⟨(h.pick 1).cell 2 rfl, trivial⟩, ⟨(h.pick 1).cell 2 rfl, trivial⟩, ⟨(h.pick 2).row_cell encZ_i64_ok (f := 0) (at_ok c37) rfl, trivial⟩, ⟨h.cell 0 rfl, trivial⟩, trivial⟩ 18 7 rfl (wgt hr (bne_eq_false_iff_eq.mpr c34)) hr (vB ((at_ r7.Log g28.toNat).A != 1)) fun a hr => ?_
         refine ev 17 8 rfl (by kernel_rfl) (wn rfl) hr (vB ((at_ r7.Log g28.toNat).A != 1)) (fun w => rp_f (b := ((at_ r7.Log g28.toNat).Who != g27)) rfl (by kernel_rfl) (bne_eq_false_iff_eq.mpr c34) (by kernel_rfl)) fun a hr => ?_
         refine evs 16 9 rfl (wn rfl) hr (vB ((at_ r7.Log g28.toNat).A != 1)) fun a hr => ?_
         refine evs 15 10 rfl (wgt hr (bne_eq_false_iff_eq.mpr c35)) hr (vI g26) fun a hr => ?_
         refine evDs hgo ⟨⟨h.cell 0 rfl, trivial⟩, ⟨h.cell 3 rfl, trivial⟩, ⟨(h.pick 1).cell 2 rfl, trivial⟩, ⟨(h.pick 1).cell 2 rfl, trivial⟩, ⟨(h.pick 2).row_cell encZ_i64_ok (f := 0) (at_ok c37) rfl, trivial⟩, ⟨h.cell 0 rfl, trivial⟩, trivial⟩ 14 11 rfl (wgt hr (bne_eq_false_iff_eq.mpr c35)) hr (pA b17 2) fun a hr => ?_
         refine el [0, 3, 5, 7, 11, 13, 14, 17, 20, 22] (b := b17) (off := 2) (cs := [.slice car10 r7.Holders.length ccr11]) (fun _ hk => ⟨hk, fun w hD => hD.2.2.1⟩) 13 12 rfl (by kernel_rfl) (wgt hr (bne_eq_false_iff_eq.mpr c35)) hr (.slice car10 r7.Holders.length ccr11) ⟨(h.pick 1).cell 2 rfl, trivial⟩ (fun w hc => rl rfl (by kernel_rfl) (by kernel_rfl) hc.1) fun a hr => ?_
         refine evDs hgo ⟨⟨h.cell 0 rfl, trivial⟩, ⟨h.cell 3 rfl, trivial⟩, ⟨(h.pick 1).cell 2 rfl, trivial⟩, ⟨(h.pick 1).cell 2 rfl, trivial⟩, ⟨(h.pick 2).row_cell encZ_i64_ok (f := 0) (at_ok c37) rfl, trivial⟩, ⟨h.cell 0 rfl, trivial⟩, trivial⟩ 12 13 rfl (wgt hr (bne_eq_false_iff_eq.mpr c35)) hr (vI ((r7.Holders.length : Nat) : Int)) fun a hr => ?_
         refine evDs hgo ⟨⟨h.cell 0 rfl, trivial⟩, ⟨h.cell 3 rfl, trivial⟩, ⟨(h.pick 1).cell 2 rfl, trivial⟩, ⟨(h.pick 1).cell 2 rfl, trivial⟩, ⟨(h.pick 2).row_cell encZ_i64_ok (f := 0) (at_ok c37) rfl, trivial⟩, ⟨h.cell 0 rfl, trivial⟩, trivial⟩ 11 14 rfl (wgt hr (bne_eq_false_iff_eq.mpr c35)) hr (vB (decide (g26 ≥ ((r7.Holders.length : Nat) : Int)))) fun a hr => ?_
         refine ev 10 15 rfl (by kernel_rfl) (wn rfl) hr (vB (decide (g26 ≥ ((r7.Holders.length : Nat) : Int)))) (fun w => rp_f (b := ((at_ r7.Log g28.toNat).A != 1)) rfl (by kernel_rfl) (bne_eq_false_iff_eq.mpr c35) (by kernel_rfl)) fun a hr => ?_
         refine evs 9 16 rfl (wn rfl) hr (vB (decide (g26 ≥ ((r7.Holders.length : Nat) : Int)))) fun a hr => ?_
         refine evDs hgo ⟨⟨h.cell 0 rfl, trivial⟩, ⟨h.cell 3 rfl, trivial⟩, ⟨(h.pick 1).cell 2 rfl, trivial⟩, ⟨(h.pick 1).cell 2 rfl, trivial⟩, ⟨(h.pick 2).row_cell encZ_i64_ok (f := 0) (at_ok c37) rfl, trivial⟩, ⟨h.cell 0 rfl, trivial⟩, trivial⟩ 8 17 rfl (wgt hr (decide_eq_false c36)) hr (pA b17 2) fun a hr => ?_
         refine evs 7 19 rfl (wgt hr (decide_eq_false c36)) hr (vI g26) fun a hr => ?_
         refine evDs hgo ⟨⟨h.cell 0 rfl, trivial⟩, ⟨h.cell 3 rfl, trivial⟩, ⟨(h.pick 1).cell 2 rfl, trivial⟩, ⟨(h.pick 1).cell 2 rfl, trivial⟩, ⟨(h.pick 2).row_cell encZ_i64_ok (f := 0) (at_ok c37) rfl, trivial⟩, ⟨h.cell 0 rfl, trivial⟩, trivial⟩ 6 22 rfl (wgt hr (decide_eq_false c36)) hr (pA b31 0) fun a hr => ?_
         refine el [0, 3, 5, 7, 11, 13, 14, 17, 20, 22] (b := b17) (off := 2) (cs := [.slice car10 r7.Holders.length ccr11]) (fun _ hk => ⟨hk, fun w hD => hD.2.2.2.1⟩) 5 18 rfl (by kernel_rfl) (wgt hr (decide_eq_false c36)) hr (.slice car10 r7.Holders.length ccr11) ⟨(h.pick 1).cell 2 rfl, trivial⟩ (fun w hc => rl rfl (by kernel_rfl) (by kernel_rfl) hc.1) fun a hr => ?_
         refine evD hgo ⟨⟨h.cell 0 rfl, trivial⟩, ⟨h.cell 3 rfl, trivial⟩, ⟨(h.pick 1).cell 2 rfl, trivial⟩, ⟨(h.pick 1).cell 2 rfl, trivial⟩, ⟨(h.pick 2).row_cell encZ_i64_ok (f := 0) (at_ok c37) rfl, trivial⟩, ⟨h.cell 0 rfl, trivial⟩, trivial⟩ 4 20 rfl (by kernel_rfl) (wgt hr (decide_eq_false c36)) hr (pA (blk car10) (g26.toNat * 1)) (fun w => ri_row (k := .i64) (E := 3) rfl (by kernel_rfl) (by kernel_rfl) (by kernel_rfl) (by kernel_rfl) (h.pick 2) c37) fun a hr => ?_
         refine el [0, 3, 5, 7, 11, 13, 14, 17, 20, 22] (b := blk car10) (off := g26.toNat * 1) (cs := [vI (at_ r7.Holders g26.toNat)]) (fun _ hk => ⟨hk, fun w hD => hD.2.2.2.2.1⟩) 3 21 rfl (by kernel_rfl) (wgt hr (decide_eq_false c36)) hr (vI (at_ r7.Holders g26.toNat)) ⟨(h.pick 2).row_cell encZ_i64_ok (f := 0) (at_ok c37) rfl, trivial⟩ (fun w hc => rl rfl (by kernel_rfl) (by kernel_rfl) hc.1) fun a hr => ?_
         refine el [0, 3, 5, 7, 11, 13, 14, 17, 20, 22] (b := b31) (off := 0) (cs := [vI (at_ r7.Log g28.toNat).Who]) (fun _ hk => ⟨hk, fun w hD => hD.2.2.2.2.2.1⟩) 2 23 rfl (by kernel_rfl) (wgt hr (decide_eq_false c36)) hr (vI (at_ r7.Log g28.toNat).Who) ⟨h.cell 0 rfl, trivial⟩ (fun w hc => rl rfl (by kernel_rfl) (by kernel_rfl) hc.1) fun a hr => ?_
         refine evs 1 24 rfl (wgt hr (decide_eq_false c36)) hr (vB ((at_ r7.Holders g26.toNat) != (at_ r7.Log g28.toNat).Who)) fun a hr => ?_
         refine ev 0 25 rfl (by kernel_rfl) (wn rfl) hr (vB ((at_ r7.Holders g26.toNat) != (at_ r7.Log g28.toNat).Who)) (fun w => rp_f (b := (decide (g26 ≥ ((r7.Holders.length : Nat) : Int)))) rfl (by kernel_rfl) (decide_eq_false c36) (by kernel_rfl)) fun a hr => ?_
         refine e_end (by kernel_rfl) ?_
         refine then_normal ?_
         by_cases c38 : (at_ r7.Holders g26.toNat) = (at_ r7.Log g28.toNat).Who
         ·
          replace H := ifT c38 H
          refine cond_ff hr (bne_eq_false_iff_eq.mpr c38) ?_
          refine wp_skip ?_
          refine then_normal ?_
          refine sr ?_
          refine o1 hr (vI (-1)) fun a hr => ?_
          refine ln ?_
          refine sr ?_
          refine oo [91, 92, 8] [vI g26, vI (wi (g26 + 1)), vI (wi (g26 + 1))] hr fun a hr => ?_
          refine ln ?_
          refine wp_exit ?_
          refine then_exit ?_
          refine blk_here ?_
          refine then_normal ?_
          refine wp_region_lit ?_
          refine oo [48, 49, 10] [vI g28, vI (wi (g28 + 1)), vI (wi (g28 + 1))] hr fun a hr => ?_
          refine ln ?_
          replace hr := hr.fold2 [(6, pA b17 0), (8, vI (wi (g26 + 1))), (9, vI (-1)), (10, vI (wi (g28 + 1)))] (by kernel_rfl); obtain ⟨j, hr⟩ := hr
          replace h : Fit z (sepL (ob86 b17 r7 car10 ccr11 car12 ccr13 car14 ccr15 car16 r7.Log.length :: ro3 car10 ccr11 r7.Holders :: rn31 car12 ccr13 r7.Reads :: ro2 car14 ccr15 r7.Marks :: ro96 car16 r7.Log.length r7.Log :: L)) _ := h.sel 6 [1, 2, 3, 4, 5] (by kernel_rfl) (by kernel_rfl)
          exact ⟨_, ⟨(wi (g26 + 1)), -1, (wi (g28 + 1)), H, j, hr, h⟩, Nat.lt_succ_self _⟩
         ·
          replace H := ifF c38 H
          refine cond_tt hr (bne_iff_ne.mpr c38) ?_
          refine sr ?_
          refine o1 hr (vB false) fun a hr => ?_
          refine ln ?_
          refine wp_ret ?_
          refine then_ret ?_
          refine then_ret ?_
          refine blk_ret ?_
          refine then_ret ?_
          refine then_ret ?_
          refine blk_ret ?_
          refine then_ret ?_
          refine end_ret1 (v := vB false) rfl hr (by kernel_rfl) ?_
          replace h : Fit z (sepL (L)) _ := h.sel 6 [] (by kernel_rfl) (by kernel_rfl)
          replace H := ej1 H; subst H
          exact ⟨rfl, h⟩
       ·
        replace H := ifF c35 H
        refine reg_E (fun w => heldC w b31 0 ([vI (at_ r7.Log g28.toNat).Who]) ∧ heldC w b31 3 ([vI (at_ r7.Log g28.toNat).A]) ∧ True) [0, 3, 5] h (by kernel_rfl) ?_; intro w h
        change wpAnyE _ _ _ _ _ _ 26 (Array.replicate 26 false) a w
        have hgo : ∀ w w', CellsGo w w' → (heldC w b31 0 ([vI (at_ r7.Log g28.toNat).Who]) ∧ heldC w b31 3 ([vI (at_ r7.Log g28.toNat).A]) ∧ True) → heldC w' b31 0 ([vI (at_ r7.Log g28.toNat).Who]) ∧ heldC w' b31 3 ([vI (at_ r7.Log g28.toNat).A]) ∧ True := fun w w' g hD => ⟨heldC_go _ _ _ _ _ g hD.1, heldC_go _ _ _ _ _ g hD.2.1, trivial⟩
        refine evDs hgo ⟨⟨h.cell 0 rfl, trivial⟩, ⟨h.cell 3 rfl, trivial⟩, trivial⟩ 25 0 rfl (wn rfl) hr (pA b31 0) fun a hr => ?_
        refine evs 24 2 rfl (wn rfl) hr (vI g27) fun a hr => ?_
        refine el [0, 3, 5] (b := b31) (off := 0) (cs := [vI (at_ r7.Log g28.toNat).Who]) (fun _ hk => ⟨hk, fun w hD => hD.1⟩) 23 1 rfl (by kernel_rfl) (wn rfl) hr (vI (at_ r7.Log g28.toNat).Who) ⟨h.cell 0 rfl, trivial⟩ (fun w hc => rl rfl (by kernel_rfl) (by kernel_rfl) hc.1) fun a hr => ?_
        refine evDs hgo ⟨⟨h.cell 0 rfl, trivial⟩, ⟨h.cell 3 rfl, trivial⟩, trivial⟩ 22 3 rfl (wn rfl) hr (vB ((at_ r7.Log g28.toNat).Who != g27)) fun a hr => ?_
        refine evs 21 4 rfl (wn rfl) hr (vB ((at_ r7.Log g28.toNat).Who != g27)) fun a hr => ?_
        refine evDs hgo ⟨⟨h.cell 0 rfl, trivial⟩, ⟨h.cell 3 rfl, trivial⟩, trivial⟩ 20 5 rfl (wgt hr (bne_eq_false_iff_eq.mpr c34)) hr (pA b31 3) fun a hr => ?_
        refine el [0, 3, 5] (b := b31) (off := 3) (cs := [vI (at_ r7.Log g28.toNat).A]) (fun _ hk => ⟨hk, fun w hD => hD.2.1⟩) 19 6 rfl (by kernel_rfl) (wgt hr (bne_eq_false_iff_eq.mpr c34)) hr (vI (at_ r7.Log g28.toNat).A) ⟨h.cell 3 rfl, trivial⟩ (fun w hc => rl rfl (by kernel_rfl) (by kernel_rfl) hc.1) fun a hr => ?_
        refine evs 18 7 rfl (wgt hr (bne_eq_false_iff_eq.mpr c34)) hr (vB ((at_ r7.Log g28.toNat).A != 1)) fun a hr => ?_
        refine ev 17 8 rfl (by kernel_rfl) (wn rfl) hr (vB ((at_ r7.Log g28.toNat).A != 1)) (fun w => rp_f (b := ((at_ r7.Log g28.toNat).Who != g27)) rfl (by kernel_rfl) (bne_eq_false_iff_eq.mpr c34) (by kernel_rfl)) fun a hr => ?_
        refine evs 16 9 rfl (wn rfl) hr (vB ((at_ r7.Log g28.toNat).A != 1)) fun a hr => ?_
        refine eos 15 10 rfl (wgt hr (bne_iff_ne.mpr c35)) hr fun a hr => ?_
        refine eos 14 11 rfl (wgt hr (bne_iff_ne.mpr c35)) hr fun a hr => ?_
        refine eos 13 12 rfl (wgt hr (bne_iff_ne.mpr c35)) hr fun a hr => ?_
        refine eos 12 13 rfl (wgt hr (bne_iff_ne.mpr c35)) hr fun a hr => ?_
        refine eos 11 14 rfl (wgt hr (bne_iff_ne.mpr c35)) hr fun a hr => ?_
        refine ev 10 15 rfl (by kernel_rfl) (wn rfl) hr (vB true) (fun w => rp_t (b := ((at_ r7.Log g28.toNat).A != 1)) rfl (by kernel_rfl) (bne_iff_ne.mpr c35) (by kernel_rfl)) fun a hr => ?_
        refine evs 9 16 rfl (wn rfl) hr (vB true) fun a hr => ?_
        refine eos 8 17 rfl (wgt hr (c := true) rfl) hr fun a hr => ?_
        refine eos 7 19 rfl (wgt hr (c := true) rfl) hr fun a hr => ?_
        refine eos 6 22 rfl (wgt hr (c := true) rfl) hr fun a hr => ?_
        refine eos 5 18 rfl (wgt hr (c := true) rfl) hr fun a hr => ?_
        refine eos 4 20 rfl (wgt hr (c := true) rfl) hr fun a hr => ?_
        refine eos 3 21 rfl (wgt hr (c := true) rfl) hr fun a hr => ?_
        refine eos 2 23 rfl (wgt hr (c := true) rfl) hr fun a hr => ?_
        refine eos 1 24 rfl (wgt hr (c := true) rfl) hr fun a hr => ?_
        refine evs 0 25 rfl (wn rfl) hr (vB true) fun a hr => ?_
        refine e_end (by kernel_rfl) ?_
        refine then_normal ?_
        refine cond_tt hr (b := true) rfl ?_
        refine sr ?_
        refine o1 hr (vB false) fun a hr => ?_
        refine ln ?_
        refine wp_ret ?_
        refine then_ret ?_
        refine then_ret ?_
        refine blk_ret ?_
        refine then_ret ?_
        refine then_ret ?_
        refine blk_ret ?_
        refine then_ret ?_
        refine end_ret1 (v := vB false) rfl hr (by kernel_rfl) ?_
        replace h : Fit z (sepL (L)) _ := h.sel 6 [] (by kernel_rfl) (by kernel_rfl)
        replace H := ej1 H; subst H
        exact ⟨rfl, h⟩
      ·
       replace H := ifF c34 H
       refine reg_E (fun w => heldC w b31 0 ([vI (at_ r7.Log g28.toNat).Who]) ∧ True) [0] h (by kernel_rfl) ?_; intro w h
       change wpAnyE _ _ _ _ _ _ 26 (Array.replicate 26 false) a w
       have hgo : ∀ w w', CellsGo w w' → (heldC w b31 0 ([vI (at_ r7.Log g28.toNat).Who]) ∧ True) → heldC w' b31 0 ([vI (at_ r7.Log g28.toNat).Who]) ∧ True := fun w w' g hD => ⟨heldC_go _ _ _ _ _ g hD.1, trivial⟩
       refine evDs hgo ⟨⟨h.cell 0 rfl, trivial⟩, trivial⟩ 25 0 rfl (wn rfl) hr (pA b31 0) fun a hr => ?_
       refine evs 24 2 rfl (wn rfl) hr (vI g27) fun a hr => ?_
       refine el [0] (b := b31) (off := 0) (cs := [vI (at_ r7.Log g28.toNat).Who]) (fun _ hk => ⟨hk, fun w hD => hD.1⟩) 23 1 rfl (by kernel_rfl) (wn rfl) hr (vI (at_ r7.Log g28.toNat).Who) ⟨h.cell 0 rfl, trivial⟩ (fun w hc => rl rfl (by kernel_rfl) (by kernel_rfl) hc.1) fun a hr => ?_
       refine evs 22 3 rfl (wn rfl) hr (vB ((at_ r7.Log g28.toNat).Who != g27)) fun a hr => ?_
       refine evs 21 4 rfl (wn rfl) hr (vB ((at_ r7.Log g28.toNat).Who != g27)) fun a hr => ?_
       refine eos 20 5 rfl (wgt hr (bne_iff_ne.mpr c34)) hr fun a hr => ?_
       refine eos 19 6 rfl (wgt hr (bne_iff_ne.mpr c34)) hr fun a hr => ?_
       refine eos 18 7 rfl (wgt hr (bne_iff_ne.mpr c34)) hr fun a hr => ?_
       refine ev 17 8 rfl (by kernel_rfl) (wn rfl) hr (vB true) (fun w => rp_t (b := ((at_ r7.Log g28.toNat).Who != g27)) rfl (by kernel_rfl) (bne_iff_ne.mpr c34) (by kernel_rfl)) fun a hr => ?_
       refine evs 16 9 rfl (wn rfl) hr (vB true) fun a hr => ?_
       refine eos 15 10 rfl (wgt hr (c := true) rfl) hr fun a hr => ?_
       refine eos 14 11 rfl (wgt hr (c := true) rfl) hr fun a hr => ?_
       refine eos 13 12 rfl (wgt hr (c := true) rfl) hr fun a hr => ?_
       refine eos 12 13 rfl (wgt hr (c := true) rfl) hr fun a hr => ?_
       refine eos 11 14 rfl (wgt hr (c := true) rfl) hr fun a hr => ?_
       refine evs 10 15 rfl (wn rfl) hr (vB true) fun a hr => ?_
       refine evs 9 16 rfl (wn rfl) hr (vB true) fun a hr => ?_
       refine eos 8 17 rfl (wgt hr (c := true) rfl) hr fun a hr => ?_
       refine eos 7 19 rfl (wgt hr (c := true) rfl) hr fun a hr => ?_
       refine eos 6 22 rfl (wgt hr (c := true) rfl) hr fun a hr => ?_
       refine eos 5 18 rfl (wgt hr (c := true) rfl) hr fun a hr => ?_
       refine eos 4 20 rfl (wgt hr (c := true) rfl) hr fun a hr => ?_
       refine eos 3 21 rfl (wgt hr (c := true) rfl) hr fun a hr => ?_
       refine eos 2 23 rfl (wgt hr (c := true) rfl) hr fun a hr => ?_
       refine eos 1 24 rfl (wgt hr (c := true) rfl) hr fun a hr => ?_
       refine evs 0 25 rfl (wn rfl) hr (vB true) fun a hr => ?_
       refine e_end (by kernel_rfl) ?_
       refine then_normal ?_
       refine cond_tt hr (b := true) rfl ?_
       refine sr ?_
       refine o1 hr (vB false) fun a hr => ?_
       refine ln ?_
       refine wp_ret ?_
       refine then_ret ?_
       refine then_ret ?_
       refine blk_ret ?_
       refine then_ret ?_
       refine then_ret ?_
       refine blk_ret ?_
       refine then_ret ?_
       refine end_ret1 (v := vB false) rfl hr (by kernel_rfl) ?_
       replace h : Fit z (sepL (L)) _ := h.sel 6 [] (by kernel_rfl) (by kernel_rfl)
       replace H := ej1 H; subst H
       exact ⟨rfl, h⟩
     ·
      replace H := ifF c33 H
      refine cond_ff hr (beq_eq_false_iff_ne.mpr c33) ?_
      refine wp_skip ?_
      refine then_normal ?_
      refine wp_seq ?_
      refine sr ?_
      refine o1 hr (pA b31 1) fun a hr => ?_
      refine ld (wn rfl) hr (vI (at_ r7.Log g28.toNat).Kind) (h.cell 1 rfl) fun a hr => ?_
      refine oo [95, 96] [vB ((at_ r7.Log g28.toNat).Kind != 3), vB ((at_ r7.Log g28.toNat).Kind != 3)] hr fun a hr => ?_
      by_cases c39 : (at_ r7.Log g28.toNat).Kind = 3
      ·
       replace H := ifT c39 H
       refine opv (wgt hr (bne_eq_false_iff_eq.mpr c39)) hr (pA b31 4) (by kernel_rfl) fun a hr => ?_
       refine ld (wgt hr (bne_eq_false_iff_eq.mpr c39)) hr (vI (at_ r7.Log g28.toNat).B) (h.cell 4 rfl) fun a hr => ?_
       refine opv (wgt hr (bne_eq_false_iff_eq.mpr c39)) hr (vB (decide ((at_ r7.Log g28.toNat).B < 0))) (by kernel_rfl) fun a hr => ?_
       refine opv (wn rfl) hr (vB (decide ((at_ r7.Log g28.toNat).B < 0))) (rp_f (b := ((at_ r7.Log g28.toNat).Kind != 3)) rfl (by kernel_rfl) (bne_eq_false_iff_eq.mpr c39) (by kernel_rfl)) fun a hr => ?_
       refine o1 hr (vB (decide ((at_ r7.Log g28.toNat).B < 0))) fun a hr => ?_
       by_cases c40 : (at_ r7.Log g28.toNat).B < 0
       ·
        replace H := ifT c40 H
        refine offg (wgt hr (decide_eq_true c40)) hr fun a hr => ?_
        refine offg (wgt hr (decide_eq_true c40)) hr fun a hr => ?_
        refine opv (wn rfl) hr (vB true) (rp_t (b := (decide ((at_ r7.Log g28.toNat).B < 0))) rfl (by kernel_rfl) (decide_eq_true c40) (by kernel_rfl)) fun a hr => ?_
        refine ln ?_
        refine cond_tt hr (b := true) rfl ?_
        refine sr ?_
        refine o1 hr (vB false) fun a hr => ?_
        refine ln ?_
        refine wp_ret ?_
        refine then_ret ?_
        refine blk_ret ?_
        refine then_ret ?_
        refine then_ret ?_
        refine blk_ret ?_
        refine then_ret ?_
        refine end_ret1 (v := vB false) rfl hr (by kernel_rfl) ?_
        replace h : Fit z (sepL (L)) _ := h.sel 6 [] (by kernel_rfl) (by kernel_rfl)
        replace H := ej1 H; subst H
        exact ⟨rfl, h⟩
       ·
        replace H := ifF c40 H
        refine opv (wgt hr (decide_eq_false c40)) hr (vI g27) (by kernel_rfl) fun a hr => ?_
        refine opv (wgt hr (decide_eq_false c40)) hr (vB (decide (g27 ≥ 0))) (by kernel_rfl) fun a hr => ?_
        refine opv (wn rfl) hr (vB (decide (g27 ≥ 0))) (rp_f (b := (decide ((at_ r7.Log g28.toNat).B < 0))) rfl (by kernel_rfl) (decide_eq_false c40) (by kernel_rfl)) fun a hr => ?_
        refine ln ?_
        by_cases c41 : g27 ≥ 0
        ·
         replace H := ifT c41 H
         refine cond_tt hr (decide_eq_true c41) ?_
         refine sr ?_
         refine o1 hr (vB false) fun a hr => ?_
         refine ln ?_
         refine wp_ret ?_
         refine then_ret ?_
         refine blk_ret ?_
         refine then_ret ?_
         refine then_ret ?_
         refine blk_ret ?_
         refine then_ret ?_
         refine end_ret1 (v := vB false) rfl hr (by kernel_rfl) ?_
         replace h : Fit z (sepL (L)) _ := h.sel 6 [] (by kernel_rfl) (by kernel_rfl)
         replace H := ej1 H; subst H
         exact ⟨rfl, h⟩
        ·
         replace H := ifF c41 H
         refine cond_ff hr (decide_eq_false c41) ?_
         refine wp_skip ?_
         refine then_normal ?_
         refine sr ?_
         refine o1 hr (pA b31 4) fun a hr => ?_
         refine ld (wn rfl) hr (vI (at_ r7.Log g28.toNat).B) (h.cell 4 rfl) fun a hr => ?_
         refine o1 hr (vB ((at_ r7.Log g28.toNat).B == 0)) fun a hr => ?_
         refine ln ?_
         by_cases c42 : (at_ r7.Log g28.toNat).B = 0
         ·
          replace H := ifT c42 H
          refine cond_tt hr (beq_iff_eq.mpr c42) ?_
          refine wp_region_lit ?_
          refine o1 hr (pA b31 0) fun a hr => ?_
          refine ld (wn rfl) hr (vI (at_ r7.Log g28.toNat).Who) (h.cell 0 rfl) fun a hr => ?_
          refine o1 hr (vI (at_ r7.Log g28.toNat).Who) fun a hr => ?_
          refine wpList_nil ?_
          refine blk_normal ?_
          refine then_normal ?_
          refine wp_region_lit ?_
          refine oo [48, 49, 10] [vI g28, vI (wi (g28 + 1)), vI (wi (g28 + 1))] hr fun a hr => ?_
          refine ln ?_
          replace hr := hr.fold2 [(6, pA b17 0), (8, vI g26), (9, vI (at_ r7.Log g28.toNat).Who), (10, vI (wi (g28 + 1)))] (by kernel_rfl); obtain ⟨j, hr⟩ := hr
          replace h : Fit z (sepL (ob86 b17 r7 car10 ccr11 car12 ccr13 car14 ccr15 car16 r7.Log.length :: ro3 car10 ccr11 r7.Holders :: rn31 car12 ccr13 r7.Reads :: ro2 car14 ccr15 r7.Marks :: ro96 car16 r7.Log.length r7.Log :: L)) _ := h.sel 6 [1, 2, 3, 4, 5] (by kernel_rfl) (by kernel_rfl)
          exact ⟨_, ⟨g26, (at_ r7.Log g28.toNat).Who, (wi (g28 + 1)), H, j, hr, h⟩, Nat.lt_succ_self _⟩
         ·
          replace H := ifF c42 H
          refine cond_ff hr (beq_eq_false_iff_ne.mpr c42) ?_
          refine wp_skip ?_
          refine blk_normal ?_
          refine then_normal ?_
          refine wp_region_lit ?_
          refine oo [48, 49, 10] [vI g28, vI (wi (g28 + 1)), vI (wi (g28 + 1))] hr fun a hr => ?_
          refine ln ?_
          replace hr := hr.fold2 [(6, pA b17 0), (8, vI g26), (9, vI g27), (10, vI (wi (g28 + 1)))] (by kernel_rfl); obtain ⟨j, hr⟩ := hr
          replace h : Fit z (sepL (ob86 b17 r7 car10 ccr11 car12 ccr13 car14 ccr15 car16 r7.Log.length :: ro3 car10 ccr11 r7.Holders :: rn31 car12 ccr13 r7.Reads :: ro2 car14 ccr15 r7.Marks :: ro96 car16 r7.Log.length r7.Log :: L)) _ := h.sel 6 [1, 2, 3, 4, 5] (by kernel_rfl) (by kernel_rfl)
          exact ⟨_, ⟨g26, g27, (wi (g28 + 1)), H, j, hr, h⟩, Nat.lt_succ_self _⟩
      ·
       replace H := ifF c39 H
       refine offg (wgt hr (bne_iff_ne.mpr c39)) hr fun a hr => ?_
       refine offg (wgt hr (bne_iff_ne.mpr c39)) hr fun a hr => ?_
       refine offg (wgt hr (bne_iff_ne.mpr c39)) hr fun a hr => ?_
       refine opv (wn rfl) hr (vB true) (rp_t (b := ((at_ r7.Log g28.toNat).Kind != 3)) rfl (by kernel_rfl) (bne_iff_ne.mpr c39) (by kernel_rfl)) fun a hr => ?_
       refine o1 hr (vB true) fun a hr => ?_
       refine offg (wgt hr (c := true) rfl) hr fun a hr => ?_
       refine offg (wgt hr (c := true) rfl) hr fun a hr => ?_
       refine o1 hr (vB true) fun a hr => ?_
       refine ln ?_
       refine cond_tt hr (b := true) rfl ?_
       refine sr ?_
       refine o1 hr (vB false) fun a hr => ?_
       refine ln ?_
       refine wp_ret ?_
       refine then_ret ?_
       refine blk_ret ?_
       refine then_ret ?_
       refine then_ret ?_
       refine blk_ret ?_
       refine then_ret ?_
       refine end_ret1 (v := vB false) rfl hr (by kernel_rfl) ?_
       replace h : Fit z (sepL (L)) _ := h.sel 6 [] (by kernel_rfl) (by kernel_rfl)
       replace H := ej1 H; subst H
       exact ⟨rfl, h⟩
    ·
     replace H := ifF c32 H
     refine cond_tt hr (bne_iff_ne.mpr c32) ?_
     refine wp_seq ?_
     refine sr ?_
     refine o1 hr (pA b31 0) fun a hr => ?_
     refine ld (wn rfl) hr (vI (at_ r7.Log g28.toNat).Who) (h.cell 0 rfl) fun a hr => ?_
     refine oo [60, 61] [vI g27, vB ((at_ r7.Log g28.toNat).Who == g27)] hr fun a hr => ?_
     refine ln ?_
     by_cases c43 : (at_ r7.Log g28.toNat).Who = g27
     ·
      replace H := ifT c43 H
      refine cond_tt hr (beq_iff_eq.mpr c43) ?_
      refine sr ?_
      refine o1 hr (vB false) fun a hr => ?_
      refine ln ?_
      refine wp_ret ?_
      refine then_ret ?_
      refine then_ret ?_
      refine blk_ret ?_
      refine then_ret ?_
      refine then_ret ?_
      refine blk_ret ?_
      refine then_ret ?_
      refine end_ret1 (v := vB false) rfl hr (by kernel_rfl) ?_
      replace h : Fit z (sepL (L)) _ := h.sel 6 [] (by kernel_rfl) (by kernel_rfl)
      replace H := ej1 H; subst H
      exact ⟨rfl, h⟩
     ·
      replace H := ifF c43 H
      refine cond_ff hr (beq_eq_false_iff_ne.mpr c43) ?_
      refine wp_skip ?_
      refine then_normal ?_
      refine wp_exit ?_
      refine then_exit ?_
      refine blk_here ?_
      refine then_normal ?_
      refine wp_region_lit ?_
      refine oo [48, 49, 10] [vI g28, vI (wi (g28 + 1)), vI (wi (g28 + 1))] hr fun a hr => ?_
      refine ln ?_
      replace hr := hr.fold2 [(6, pA b17 0), (8, vI g26), (9, vI g27), (10, vI (wi (g28 + 1)))] (by kernel_rfl); obtain ⟨j, hr⟩ := hr
      replace h : Fit z (sepL (ob86 b17 r7 car10 ccr11 car12 ccr13 car14 ccr15 car16 r7.Log.length :: ro3 car10 ccr11 r7.Holders :: rn31 car12 ccr13 r7.Reads :: ro2 car14 ccr15 r7.Marks :: ro96 car16 r7.Log.length r7.Log :: L)) _ := h.sel 6 [1, 2, 3, 4, 5] (by kernel_rfl) (by kernel_rfl)
      exact ⟨_, ⟨g26, g27, (wi (g28 + 1)), H, j, hr, h⟩, Nat.lt_succ_self _⟩
   ·
    replace H := ifF c29 H
    refine cond_ff hr (decide_eq_false c29) ?_
    refine wp_exit ?_
    refine then_exit ?_
    refine then_exit ?_
    refine blk_here ?_
    refine then_normal ?_
    refine sr ?_
    refine oo [110, 111] [vI g26, pA b17 2] hr fun a hr => ?_
    refine ld (wn rfl) hr (.slice car10 r7.Holders.length ccr11) (h.cell 2 rfl) fun a hr => ?_
    refine oo [113, 114, 4] [vI ((r7.Holders.length : Nat) : Int), vB (g26 == ((r7.Holders.length : Nat) : Int)), vB (g26 == ((r7.Holders.length : Nat) : Int))] hr fun a hr => ?_
    refine ln ?_
    refine wp_ret ?_
    refine end_ret1 (v := vB (g26 == ((r7.Holders.length : Nat) : Int))) rfl hr (by kernel_rfl) ?_
    replace h : Fit z (sepL (L)) _ := h.sel 5 [] (by kernel_rfl) (by kernel_rfl)
    replace H := ej1 H; subst H
    exact ⟨rfl, h⟩
 ·
  replace H := ifF c5 H
  refine cond_ff hr (decide_eq_false c5) ?_
  refine wp_skip ?_
  refine then_normal ?_
  refine sr ?_
  refine oo [8, 2] [.slice va1 p1.length vc1, .slice va1 p1.length vc1] hr fun a hr => ?_
  refine ln ?_
  refine wp_ret ?_
  refine end_ret1 (v := .slice va1 p1.length vc1) rfl hr (by kernel_rfl) ?_
  refine ⟨_, rfl, ?_⟩; clear hr a; intro a hr
  obtain ⟨r44, r45, e46, H⟩ := bd2 H
  have hc := frames_Play_ok (va0 := car3) (vc0 := ccr4) (va1 := va1) (vc1 := vc1) (hv0 := (RdRow.of_row encZ_i64_ok h (fun h => h))) (hv1 := (RdRow.up 1 hv1)) (H := e46) (h := h)
  refine cl (wn rfl) hr hc ?_; clear hc h
  rintro _ w ⟨car47, ccr48, car49, ccr50, car51, ccr52, car53, rfl, h⟩; refine ⟨_, rfl, fun a hr => ?_⟩
  refine oo [14, 19, 20] [.tuple #[.agg #[vB r44.Done, vI r44.Steps, .slice car47 r44.Holders.length ccr48, .slice car49 r44.Reads.length ccr50, .slice car51 r44.Marks.length ccr52, .slice car53 r44.Log.length r44.Log.length], vI r45], .agg #[vB r44.Done, vI r44.Steps, .slice car47 r44.Holders.length ccr48, .slice car49 r44.Reads.length ccr50, .slice car51 r44.Marks.length ccr52, .slice car53 r44.Log.length r44.Log.length], vI r45] hr fun a hr => ?_
  refine onew (wn rfl) hr h nb (#[vB false, vI 0, .slice none 0 0, .slice none 0 0, .slice none 0 0, .slice none 0 0]) 86 fun b54 w a h hr => ?_
  refine stos (wn rfl) hr h 0 ([vB r44.Done, vI r44.Steps, .slice car47 r44.Holders.length ccr48, .slice car49 r44.Reads.length ccr50, .slice car51 r44.Marks.length ccr52, .slice car53 r44.Log.length r44.Log.length]) (#[vB r44.Done, vI r44.Steps, .slice car47 r44.Holders.length ccr48, .slice car49 r44.Reads.length ccr50, .slice car51 r44.Marks.length ccr52, .slice car53 r44.Log.length r44.Log.length]) fun w h => ?_
  refine o1 hr (vI r45) fun a hr => ?_
  refine wpList_nil ?_
  replace h : Fit z (sepL (ob86 b54 r44 car47 ccr48 car49 ccr50 car51 ccr52 car53 r44.Log.length :: ro3 car47 ccr48 r44.Holders :: rn31 car49 ccr50 r44.Reads :: ro2 car51 ccr52 r44.Marks :: ro96 car53 r44.Log.length r44.Log :: ro3 car3 ccr4 r1 :: L)) _ := h
  refine then_normal ?_
  obtain ⟨o56, H, hK55⟩ := jd0 H
  refine cut_rule (β := Unit) (fun _ a w => .inl () = o56 ∧ ∃ j, Rep 115 (lk [(6, pA b54 0)] j) a ∧ Fit z (sepL (ob86 b54 r44 car47 ccr48 car49 ccr50 car51 ccr52 car53 r44.Log.length :: ro3 car47 ccr48 r44.Holders :: rn31 car49 ccr50 r44.Reads :: ro2 car51 ccr52 r44.Marks :: ro96 car53 r44.Log.length r44.Log :: L)) w) ?_ ?_
  ·
   refine sr ?_
   refine oo [21, 22, 23] [vI r45, vB (r45 != 0), vB (r45 != 0)] hr fun a hr => ?_
   by_cases c57 : r45 = 0
   ·
    replace H := ifT c57 H
    refine opv (wgt hr (bne_eq_false_iff_eq.mpr c57)) hr (pA b54 5) (by kernel_rfl) fun a hr => ?_
    refine ld (wgt hr (bne_eq_false_iff_eq.mpr c57)) hr (.slice car53 r44.Log.length r44.Log.length) (h.cell 5 rfl) fun a hr => ?_
    refine opv (wgt hr (bne_eq_false_iff_eq.mpr c57)) hr (vI ((r44.Log.length : Nat) : Int)) (by kernel_rfl) fun a hr => ?_
    refine opv (wgt hr (bne_eq_false_iff_eq.mpr c57)) hr (pA b54 1) (by kernel_rfl) fun a hr => ?_
    refine ld (wgt hr (bne_eq_false_iff_eq.mpr c57)) hr (vI r44.Steps) (h.cell 1 rfl) fun a hr => ?_
    refine opv (wgt hr (bne_eq_false_iff_eq.mpr c57)) hr (vB (((r44.Log.length : Nat) : Int) != r44.Steps)) (by kernel_rfl) fun a hr => ?_
    refine opv (wn rfl) hr (vB (((r44.Log.length : Nat) : Int) != r44.Steps)) (rp_f (b := (r45 != 0)) rfl (by kernel_rfl) (bne_eq_false_iff_eq.mpr c57) (by kernel_rfl)) fun a hr => ?_
    refine o1 hr (vB (((r44.Log.length : Nat) : Int) != r44.Steps)) fun a hr => ?_
    by_cases c58 : ((r44.Log.length : Nat) : Int) = r44.Steps
    ·
     replace H := ifT c58 H
     refine opv (wgt hr (bne_eq_false_iff_eq.mpr c58)) hr (.slice va1 p1.length vc1) (by kernel_rfl) fun a hr => ?_
     refine opv (wgt hr (bne_eq_false_iff_eq.mpr c58)) hr (vI ((p1.length : Nat) : Int)) (by kernel_rfl) fun a hr => ?_
     refine opv (wgt hr (bne_eq_false_iff_eq.mpr c58)) hr (.slice car3 r1.length ccr4) (by kernel_rfl) fun a hr => ?_
     obtain ⟨r59, e60, H⟩ := bd1 H
     have hc := plunderlaw8_length_ok (va0 := car3) (vc0 := ccr4) (hv0 := (RdRow.of_row encZ_i64_ok (h.pick 5) (fun h => (h.pick 5)))) (H := e60) (h := h)
     refine cl (wgt hr (bne_eq_false_iff_eq.mpr c58)) hr hc ?_; clear hc h
     rintro _ w ⟨rfl, h⟩; refine ⟨_, rfl, fun a hr => ?_⟩
     refine opv (wgt hr (bne_eq_false_iff_eq.mpr c58)) hr (vB (decide (((p1.length : Nat) : Int) ≥ r59))) (by kernel_rfl) fun a hr => ?_
     refine opv (wgt hr (bne_eq_false_iff_eq.mpr c58)) hr (vB (decide (((p1.length : Nat) : Int) ≥ r59))) (by kernel_rfl) fun a hr => ?_
     by_cases c61 : ((p1.length : Nat) : Int) ≥ r59
     ·
      replace H := ifT c61 H
      refine opv (wgt hr (decide_eq_true c61)) hr (pA b54 0) (by kernel_rfl) fun a hr => ?_
      refine ld (wgt hr (decide_eq_true c61)) hr (vB r44.Done) (h.cell 0 rfl) fun a hr => ?_
      refine opv (wgt hr (decide_eq_true c61)) hr (vB (!r44.Done)) (by kernel_rfl) fun a hr => ?_
      refine opv (wgt hr (bne_eq_false_iff_eq.mpr c58)) hr (vB (!r44.Done)) (rp_t (b := (decide (((p1.length : Nat) : Int) ≥ r59))) rfl (by kernel_rfl) (decide_eq_true c61) (by kernel_rfl)) fun a hr => ?_
      refine opv (wn rfl) hr (vB (!r44.Done)) (rp_f (b := (((r44.Log.length : Nat) : Int) != r44.Steps)) rfl (by kernel_rfl) (bne_eq_false_iff_eq.mpr c58) (by kernel_rfl)) fun a hr => ?_
      refine ln ?_
      by_cases c62 : r44.Done = true
      ·
       replace H := ifT c62 H
       refine cond_ff hr (b := (!r44.Done)) (by rw [show r44.Done = true from (c62)]; rfl) ?_
       refine wp_skip ?_
       refine then_normal ?_
       replace hr := hr.fold2 [(6, pA b54 0)] (by kernel_rfl); obtain ⟨j, hr⟩ := hr
       replace h : Fit z (sepL (ob86 b54 r44 car47 ccr48 car49 ccr50 car51 ccr52 car53 r44.Log.length :: ro3 car47 ccr48 r44.Holders :: rn31 car49 ccr50 r44.Reads :: ro2 car51 ccr52 r44.Marks :: ro96 car53 r44.Log.length r44.Log :: L)) _ := h.sel 6 [0, 1, 2, 3, 4] (by kernel_rfl) (by kernel_rfl)
       exact ⟨(), sinj H, j, hr, h⟩
      ·
       replace H := ifF c62 H
       refine cond_tt hr (b := (!r44.Done)) (by rw [show r44.Done = false from (bF c62)]; rfl) ?_
       refine sr ?_
       refine o1 hr (vB false) fun a hr => ?_
       refine ln ?_
       refine wp_ret ?_
       refine then_ret ?_
       refine end_ret1 (v := vB false) rfl hr (by kernel_rfl) ?_
       replace H := jx0 H hK55
       replace h : Fit z (sepL (L)) _ := h.sel 6 [] (by kernel_rfl) (by kernel_rfl)
       replace H := ej1 H; subst H
       exact ⟨rfl, h⟩
     ·
      replace H := ifF c61 H
      refine offg (wgt hr (decide_eq_false c61)) hr fun a hr => ?_
      refine offg (wgt hr (decide_eq_false c61)) hr fun a hr => ?_
      refine offg (wgt hr (decide_eq_false c61)) hr fun a hr => ?_
      refine opv (wgt hr (bne_eq_false_iff_eq.mpr c58)) hr (vB false) (rp_f (b := (decide (((p1.length : Nat) : Int) ≥ r59))) rfl (by kernel_rfl) (decide_eq_false c61) (by kernel_rfl)) fun a hr => ?_
      refine opv (wn rfl) hr (vB false) (rp_f (b := (((r44.Log.length : Nat) : Int) != r44.Steps)) rfl (by kernel_rfl) (bne_eq_false_iff_eq.mpr c58) (by kernel_rfl)) fun a hr => ?_
      refine ln ?_
      refine cond_ff hr (b := false) rfl ?_
      refine wp_skip ?_
      refine then_normal ?_
      replace hr := hr.fold2 [(6, pA b54 0)] (by kernel_rfl); obtain ⟨j, hr⟩ := hr
      replace h : Fit z (sepL (ob86 b54 r44 car47 ccr48 car49 ccr50 car51 ccr52 car53 r44.Log.length :: ro3 car47 ccr48 r44.Holders :: rn31 car49 ccr50 r44.Reads :: ro2 car51 ccr52 r44.Marks :: ro96 car53 r44.Log.length r44.Log :: L)) _ := h.sel 6 [0, 1, 2, 3, 4] (by kernel_rfl) (by kernel_rfl)
      exact ⟨(), sinj H, j, hr, h⟩
    ·
     replace H := ifF c58 H
     refine offg (wgt hr (bne_iff_ne.mpr c58)) hr fun a hr => ?_
     refine offg (wgt hr (bne_iff_ne.mpr c58)) hr fun a hr => ?_
     refine offg (wgt hr (bne_iff_ne.mpr c58)) hr fun a hr => ?_
     refine offg (wgt hr (bne_iff_ne.mpr c58)) hr fun a hr => ?_
     refine offg (wgt hr (bne_iff_ne.mpr c58)) hr fun a hr => ?_
     refine offg (wgt hr (bne_iff_ne.mpr c58)) hr fun a hr => ?_
     refine offg (wg_undef hr rfl rfl rfl (by kernel_rfl)) hr fun a hr => ?_
     refine offg (wg_undef hr rfl rfl rfl (by kernel_rfl)) hr fun a hr => ?_
     refine offg (wg_undef hr rfl rfl rfl (by kernel_rfl)) hr fun a hr => ?_
     refine offg (wgt hr (bne_iff_ne.mpr c58)) hr fun a hr => ?_
     refine opv (wn rfl) hr (vB true) (rp_t (b := (((r44.Log.length : Nat) : Int) != r44.Steps)) rfl (by kernel_rfl) (bne_iff_ne.mpr c58) (by kernel_rfl)) fun a hr => ?_
     refine ln ?_
     refine cond_tt hr (b := true) rfl ?_
     refine sr ?_
     refine o1 hr (vB false) fun a hr => ?_
     refine ln ?_
     refine wp_ret ?_
     refine then_ret ?_
     refine end_ret1 (v := vB false) rfl hr (by kernel_rfl) ?_
     replace H := jx0 H hK55
     replace h : Fit z (sepL (L)) _ := h.sel 6 [] (by kernel_rfl) (by kernel_rfl)
     replace H := ej1 H; subst H
     exact ⟨rfl, h⟩
   ·
    replace H := ifF c57 H
    refine offg (wgt hr (bne_iff_ne.mpr c57)) hr fun a hr => ?_
    refine offg (wgt hr (bne_iff_ne.mpr c57)) hr fun a hr => ?_
    refine offg (wgt hr (bne_iff_ne.mpr c57)) hr fun a hr => ?_
    refine offg (wgt hr (bne_iff_ne.mpr c57)) hr fun a hr => ?_
    refine offg (wgt hr (bne_iff_ne.mpr c57)) hr fun a hr => ?_
    refine offg (wgt hr (bne_iff_ne.mpr c57)) hr fun a hr => ?_
    refine opv (wn rfl) hr (vB true) (rp_t (b := (r45 != 0)) rfl (by kernel_rfl) (bne_iff_ne.mpr c57) (by kernel_rfl)) fun a hr => ?_
    refine o1 hr (vB true) fun a hr => ?_
    refine offg (wgt hr (c := true) rfl) hr fun a hr => ?_
    refine offg (wgt hr (c := true) rfl) hr fun a hr => ?_
    refine offg (wgt hr (c := true) rfl) hr fun a hr => ?_
    refine offg (wgt hr (c := true) rfl) hr fun a hr => ?_
    refine offg (wgt hr (c := true) rfl) hr fun a hr => ?_
    refine offg (wgt hr (c := true) rfl) hr fun a hr => ?_
    refine offg (wg_undef hr rfl rfl rfl (by kernel_rfl)) hr fun a hr => ?_
    refine offg (wg_undef hr rfl rfl rfl (by kernel_rfl)) hr fun a hr => ?_
    refine offg (wg_undef hr rfl rfl rfl (by kernel_rfl)) hr fun a hr => ?_
    refine offg (wgt hr (c := true) rfl) hr fun a hr => ?_
    refine o1 hr (vB true) fun a hr => ?_
    refine ln ?_
    refine cond_tt hr (b := true) rfl ?_
    refine sr ?_
    refine o1 hr (vB false) fun a hr => ?_
    refine ln ?_
    refine wp_ret ?_
    refine then_ret ?_
    refine end_ret1 (v := vB false) rfl hr (by kernel_rfl) ?_
    replace H := jx0 H hK55
    replace h : Fit z (sepL (L)) _ := h.sel 6 [] (by kernel_rfl) (by kernel_rfl)
    replace H := ej1 H; subst H
    exact ⟨rfl, h⟩
  clear h hr a; rintro _ a w ⟨rfl, j, hr, h⟩
  replace H := jk0 hK55
  refine sr ?_
  refine o1 hr (vI 0) fun a hr => ?_
  refine ln ?_
  refine sr ?_
  refine o1 hr (vI (-1)) fun a hr => ?_
  refine ln ?_
  refine wp_seq ?_
  refine sr ?_
  refine o1 hr (vI 0) fun a hr => ?_
  refine ln ?_
  refine wp_block ?_
  replace hr := hr.fold2 [(6, pA b54 0), (8, vI 0), (9, vI (-1)), (10, vI 0)] (by kernel_rfl); obtain ⟨j, hr⟩ := hr
  refine loop_rule (β := Nat) id (fun m a w => ∃ g63 : Int, ∃ g64 : Int, ∃ g65 : Int, (plunderlaw8_FramesOnce_l2 K r44 m g63 g64 g65) = some r0 ∧ ∃ j, Rep 115 (lk [(6, pA b54 0), (8, vI g63), (9, vI g64), (10, vI g65)] j) a ∧ Fit z (sepL (ob86 b54 r44 car47 ccr48 car49 ccr50 car51 ccr52 car53 r44.Log.length :: ro3 car47 ccr48 r44.Holders :: rn31 car49 ccr50 r44.Reads :: ro2 car51 ccr52 r44.Marks :: ro96 car53 r44.Log.length r44.Log :: L)) w) K ⟨0, -1, 0, H, j, hr, h⟩ ?_
  clear h hr a H; rintro k2 a w ⟨g63, g64, g65, H, j, hr, h⟩
  cases k2 with
  | zero => exact absurd H (by simp [plunderlaw8_FramesOnce_l2])
  | succ k2 =>
   rw [plunderlaw8_FramesOnce_l2] at H
   refine wp_seq ?_
   refine sr ?_
   refine oo [43, 44] [vI g65, pA b54 5] hr fun a hr => ?_
   refine ld (wn rfl) hr (.slice car53 r44.Log.length r44.Log.length) (h.cell 5 rfl) fun a hr => ?_
   refine oo [46, 47] [vI ((r44.Log.length : Nat) : Int), vB (decide (g65 < ((r44.Log.length : Nat) : Int)))] hr fun a hr => ?_
   refine ln ?_
   by_cases c66 : g65 < ((r44.Log.length : Nat) : Int)
   ·
    replace H := ifT c66 H
    refine cond_tt hr (decide_eq_true c66) ?_
    refine wp_skip ?_
    refine then_normal ?_
    refine wp_seq ?_
    refine wp_block ?_
    refine sr ?_
    refine o1 hr (pA b54 5) fun a hr => ?_
    refine ld (wn rfl) hr (.slice car53 r44.Log.length r44.Log.length) (h.cell 5 rfl) fun a hr => ?_
    obtain ⟨c67, H⟩ := gd H
    refine o1 hr (vI g65) fun a hr => ?_
    refine opv (wn rfl) hr (pA (blk car53) (g65.toNat * 6)) (ri_row (k := .i64) (E := 96) rfl (by kernel_rfl) (by kernel_rfl) (by kernel_rfl) (by kernel_rfl) (h.pick 4) c67) fun a hr => ?_
    refine ldm (wn rfl) hr (ag_T_api_Access (at_ r44.Log g65.toNat)) (cs := cl_T_api_Access (at_ r44.Log g65.toNat)) ⟨(h.pick 4).row_cell enc_T_api_Access_ok (f := 0) (at_ok c67) rfl, (h.pick 4).row_cell enc_T_api_Access_ok (f := 1) (at_ok c67) rfl, (h.pick 4).row_cell enc_T_api_Access_ok (f := 2) (at_ok c67) rfl, (h.pick 4).row_cell enc_T_api_Access_ok (f := 3) (at_ok c67) rfl, (h.pick 4).row_cell enc_T_api_Access_ok (f := 4) (at_ok c67) rfl, (h.pick 4).row_cell enc_T_api_Access_ok (f := 5) (at_ok c67) rfl, trivial⟩ fun a hr => ?_
    refine onew (wn rfl) hr h nb (#[vI 0, vI 0, vI 0, vI 0, vI 0, vB false]) 96 fun b68 w a h hr => ?_
    refine stos (wn rfl) hr h 0 (cl_T_api_Access (at_ r44.Log g65.toNat)) (ca_T_api_Access (at_ r44.Log g65.toNat)) fun w h => ?_
    refine wpList_nil ?_
    replace h : Fit z (sepL (ob96 b68 (at_ r44.Log g65.toNat) :: ob86 b54 r44 car47 ccr48 car49 ccr50 car51 ccr52 car53 r44.Log.length :: ro3 car47 ccr48 r44.Holders :: rn31 car49 ccr50 r44.Reads :: ro2 car51 ccr52 r44.Marks :: ro96 car53 r44.Log.length r44.Log :: L)) _ := h
    refine then_normal ?_
    refine wp_seq ?_
    refine sr ?_
    refine o1 hr (pA b68 2) fun a hr => ?_
    refine ld (wn rfl) hr (vI (at_ r44.Log g65.toNat).Addr) (h.cell 2 rfl) fun a hr => ?_
    refine o1 hr (vB ((at_ r44.Log g65.toNat).Addr != 1)) fun a hr => ?_
    refine ln ?_
    by_cases c69 : (at_ r44.Log g65.toNat).Addr = 1
    ·
     replace H := ifT c69 H
     refine cond_ff hr (bne_eq_false_iff_eq.mpr c69) ?_
     refine wp_skip ?_
     refine then_normal ?_
     refine wp_seq ?_
     refine sr ?_
     refine o1 hr (pA b68 1) fun a hr => ?_
     refine ld (wn rfl) hr (vI (at_ r44.Log g65.toNat).Kind) (h.cell 1 rfl) fun a hr => ?_
     refine o1 hr (vB ((at_ r44.Log g65.toNat).Kind == 1)) fun a hr => ?_
     refine ln ?_
     by_cases c70 : (at_ r44.Log g65.toNat).Kind = 1
     ·
      replace H := ifT c70 H
      refine cond_tt hr (beq_iff_eq.mpr c70) ?_
      refine wp_seq ?_
      refine wp_seq ?_
      by_cases c71 : (at_ r44.Log g65.toNat).Who = g64
      ·
       replace H := ifT c71 H
       by_cases c72 : (at_ r44.Log g65.toNat).A = 1
       ·
        replace H := ifT c72 H
        by_cases c73 : g63 ≥ ((r44.Holders.length : Nat) : Int)
        ·
         replace H := ifT c73 H
         refine reg_E (fun w => heldC w b68 0 ([vI (at_ r44.Log g65.toNat).Who]) ∧ heldC w b68 3 ([vI (at_ r44.Log g65.toNat).A]) ∧ heldC w b54 2 ([.slice car47 r44.Holders.length ccr48]) ∧ True) [0, 3, 5, 7, 11] h (by kernel_rfl) ?_; intro w h
         change wpAnyE _ _ _ _ _ _ 26 (Array.replicate 26 false) a w
         have hgo : ∀ w w', CellsGo w w' → (heldC w b68 0 ([vI (at_ r44.Log g65.toNat).Who]) ∧ heldC w b68 3 ([vI (at_ r44.Log g65.toNat).A]) ∧ heldC w b54 2 ([.slice car47 r44.Holders.length ccr48]) ∧ True) → heldC w' b68 0 ([vI (at_ r44.Log g65.toNat).Who]) ∧ heldC w' b68 3 ([vI (at_ r44.Log g65.toNat).A]) ∧ heldC w' b54 2 ([.slice car47 r44.Holders.length ccr48]) ∧ True := fun w w' g hD => ⟨heldC_go _ _ _ _ _ g hD.1, heldC_go _ _ _ _ _ g hD.2.1, heldC_go _ _ _ _ _ g hD.2.2.1, trivial⟩
         refine evDs hgo ⟨⟨h.cell 0 rfl, trivial⟩, ⟨h.cell 3 rfl, trivial⟩, ⟨(h.pick 1).cell 2 rfl, trivial⟩, trivial⟩ 25 0 rfl (wn rfl) hr (pA b68 0) fun a hr => ?_
         refine evs 24 2 rfl (wn rfl) hr (vI g64) fun a hr => ?_
         refine el [0, 3, 5, 7, 11] (b := b68) (off := 0) (cs := [vI (at_ r44.Log g65.toNat).Who]) (fun _ hk => ⟨hk, fun w hD => hD.1⟩) 23 1 rfl (by kernel_rfl) (wn rfl) hr (vI (at_ r44.Log g65.toNat).Who) ⟨h.cell 0 rfl, trivial⟩ (fun w hc => rl rfl (by kernel_rfl) (by kernel_rfl) hc.1) fun a hr => ?_
         refine evDs hgo ⟨⟨h.cell 0 rfl, trivial⟩, ⟨h.cell 3 rfl, trivial⟩, ⟨(h.pick 1).cell 2 rfl, trivial⟩, trivial⟩ 22 3 rfl (wn rfl) hr (vB ((at_ r44.Log g65.toNat).Who != g64)) fun a hr => ?_
         refine evs 21 4 rfl (wn rfl) hr (vB ((at_ r44.Log g65.toNat).Who != g64)) fun a hr => ?_
         refine evDs hgo ⟨⟨h.cell 0 rfl, trivial⟩, ⟨h.cell 3 rfl, trivial⟩, ⟨(h.pick 1).cell 2 rfl, trivial⟩, trivial⟩ 20 5 rfl (wgt hr (bne_eq_false_iff_eq.mpr c71)) hr (pA b68 3) fun a hr => ?_
         refine el [0, 3, 5, 7, 11] (b := b68) (off := 3) (cs := [vI (at_ r44.Log g65.toNat).A]) (fun _ hk => ⟨hk, fun w hD => hD.2.1⟩) 19 6 rfl (by kernel_rfl) (wgt hr (bne_eq_false_iff_eq.mpr c71)) hr (vI (at_ r44.Log g65.toNat).A) ⟨h.cell 3 rfl, trivial⟩ (fun w hc => rl rfl (by kernel_rfl) (by kernel_rfl) hc.1) fun a hr => ?_
         refine evDs hgo ⟨⟨h.cell 0 rfl, trivial⟩, ⟨h.cell 3 rfl, trivial⟩, ⟨(h.pick 1).cell 2 rfl, trivial⟩, trivial⟩ 18 7 rfl (wgt hr (bne_eq_false_iff_eq.mpr c71)) hr (vB ((at_ r44.Log g65.toNat).A != 1)) fun a hr => ?_
         refine ev 17 8 rfl (by kernel_rfl) (wn rfl) hr (vB ((at_ r44.Log g65.toNat).A != 1)) (fun w => rp_f (b := ((at_ r44.Log g65.toNat).Who != g64)) rfl (by kernel_rfl) (bne_eq_false_iff_eq.mpr c71) (by kernel_rfl)) fun a hr => ?_
         refine evs 16 9 rfl (wn rfl) hr (vB ((at_ r44.Log g65.toNat).A != 1)) fun a hr => ?_
         refine evs 15 10 rfl (wgt hr (bne_eq_false_iff_eq.mpr c72)) hr (vI g63) fun a hr => ?_
         refine evDs hgo ⟨⟨h.cell 0 rfl, trivial⟩, ⟨h.cell 3 rfl, trivial⟩, ⟨(h.pick 1).cell 2 rfl, trivial⟩, trivial⟩ 14 11 rfl (wgt hr (bne_eq_false_iff_eq.mpr c72)) hr (pA b54 2) fun a hr => ?_
         refine el [0, 3, 5, 7, 11] (b := b54) (off := 2) (cs := [.slice car47 r44.Holders.length ccr48]) (fun _ hk => ⟨hk, fun w hD => hD.2.2.1⟩) 13 12 rfl (by kernel_rfl) (wgt hr (bne_eq_false_iff_eq.mpr c72)) hr (.slice car47 r44.Holders.length ccr48) ⟨(h.pick 1).cell 2 rfl, trivial⟩ (fun w hc => rl rfl (by kernel_rfl) (by kernel_rfl) hc.1) fun a hr => ?_
         refine evs 12 13 rfl (wgt hr (bne_eq_false_iff_eq.mpr c72)) hr (vI ((r44.Holders.length : Nat) : Int)) fun a hr => ?_
         refine evs 11 14 rfl (wgt hr (bne_eq_false_iff_eq.mpr c72)) hr (vB (decide (g63 ≥ ((r44.Holders.length : Nat) : Int)))) fun a hr => ?_
         refine ev 10 15 rfl (by kernel_rfl) (wn rfl) hr (vB (decide (g63 ≥ ((r44.Holders.length : Nat) : Int)))) (fun w => rp_f (b := ((at_ r44.Log g65.toNat).A != 1)) rfl (by kernel_rfl) (bne_eq_false_iff_eq.mpr c72) (by kernel_rfl)) fun a hr => ?_
         refine evs 9 16 rfl (wn rfl) hr (vB (decide (g63 ≥ ((r44.Holders.length : Nat) : Int)))) fun a hr => ?_
         refine eos 8 17 rfl (wgt hr (decide_eq_true c73)) hr fun a hr => ?_
         refine eos 7 19 rfl (wgt hr (decide_eq_true c73)) hr fun a hr => ?_
         refine eos 6 22 rfl (wgt hr (decide_eq_true c73)) hr fun a hr => ?_
         refine eos 5 18 rfl (wgt hr (decide_eq_true c73)) hr fun a hr => ?_
         refine eos 4 20 rfl (wgt hr (decide_eq_true c73)) hr fun a hr => ?_
         refine eos 3 21 rfl (wgt hr (decide_eq_true c73)) hr fun a hr => ?_
         refine eos 2 23 rfl (wgt hr (decide_eq_true c73)) hr fun a hr => ?_
         refine eos 1 24 rfl (wgt hr (decide_eq_true c73)) hr fun a hr => ?_
         refine ev 0 25 rfl (by kernel_rfl) (wn rfl) hr (vB true) (fun w => rp_t (b := (decide (g63 ≥ ((r44.Holders.length : Nat) : Int)))) rfl (by kernel_rfl) (decide_eq_true c73) (by kernel_rfl)) fun a hr => ?_
         refine e_end (by kernel_rfl) ?_
         refine then_normal ?_
         refine cond_tt hr (b := true) rfl ?_
         refine sr ?_
         refine o1 hr (vB false) fun a hr => ?_
         refine ln ?_
         refine wp_ret ?_
         refine then_ret ?_
         refine then_ret ?_
         refine blk_ret ?_
         refine then_ret ?_
         refine then_ret ?_
         refine blk_ret ?_
         refine then_ret ?_
         refine end_ret1 (v := vB false) rfl hr (by kernel_rfl) ?_
         replace h : Fit z (sepL (L)) _ := h.sel 6 [] (by kernel_rfl) (by kernel_rfl)
         replace H := ej1 H; subst H
         exact ⟨rfl, h⟩
        ·
         replace H := ifF c73 H
         obtain ⟨c74, H⟩ := gd H
         refine reg_E (fun w => heldC w b68 0 ([vI (at_ r44.Log g65.toNat).Who]) ∧ heldC w b68 3 ([vI (at_ r44.Log g65.toNat).A]) ∧ heldC w b54 2 ([.slice car47 r44.Holders.length ccr48]) ∧ heldC w b54 2 ([.slice car47 r44.Holders.length ccr48]) ∧ heldC w (blk car47) (g63.toNat * 1) ([vI (at_ r44.Holders g63.toNat)]) ∧ heldC w b68 0 ([vI (at_ r44.Log g65.toNat).Who]) ∧ True) [0, 3, 5, 7, 11, 13, 14, 17, 20, 22] h (by kernel_rfl) ?_; intro w h
         change wpAnyE _ _ _ _ _ _ 26 (Array.replicate 26 false) a w
         have hgo : ∀ w w', CellsGo w w' → (heldC w b68 0 ([vI (at_ r44.Log g65.toNat).Who]) ∧ heldC w b68 3 ([vI (at_ r44.Log g65.toNat).A]) ∧ heldC w b54 2 ([.slice car47 r44.Holders.length ccr48]) ∧ heldC w b54 2 ([.slice car47 r44.Holders.length ccr48]) ∧ heldC w (blk car47) (g63.toNat * 1) ([vI (at_ r44.Holders g63.toNat)]) ∧ heldC w b68 0 ([vI (at_ r44.Log g65.toNat).Who]) ∧ True) → heldC w' b68 0 ([vI (at_ r44.Log g65.toNat).Who]) ∧ heldC w' b68 3 ([vI (at_ r44.Log g65.toNat).A]) ∧ heldC w' b54 2 ([.slice car47 r44.Holders.length ccr48]) ∧ heldC w' b54 2 ([.slice car47 r44.Holders.length ccr48]) ∧ heldC w' (blk car47) (g63.toNat * 1) ([vI (at_ r44.Holders g63.toNat)]) ∧ heldC w' b68 0 ([vI (at_ r44.Log g65.toNat).Who]) ∧ True := fun w w' g hD => ⟨heldC_go _ _ _ _ _ g hD.1, heldC_go _ _ _ _ _ g hD.2.1, heldC_go _ _ _ _ _ g hD.2.2.1, heldC_go _ _ _ _ _ g hD.2.2.2.1, heldC_go _ _ _ _ _ g hD.2.2.2.2.1, heldC_go _ _ _ _ _ g hD.2.2.2.2.2.1, trivial⟩
         refine evDs hgo ⟨⟨h.cell 0 rfl, trivial⟩, ⟨h.cell 3 rfl, trivial⟩, ⟨(h.pick 1).cell 2 rfl, trivial⟩, ⟨(h.pick 1).cell 2 rfl, trivial⟩, ⟨(h.pick 2).row_cell encZ_i64_ok (f := 0) (at_ok c74) rfl, trivial⟩, ⟨h.cell 0 rfl, trivial⟩, trivial⟩ 25 0 rfl (wn rfl) hr (pA b68 0) fun a hr => ?_
         refine evs 24 2 rfl (wn rfl) hr (vI g64) fun a hr => ?_
         refine el [0, 3, 5, 7, 11, 13, 14, 17, 20, 22] (b := b68) (off := 0) (cs := [vI (at_ r44.Log g65.toNat).Who]) (fun _ hk => ⟨hk, fun w hD => hD.1⟩) 23 1 rfl (by kernel_rfl) (wn rfl) hr (vI (at_ r44.Log g65.toNat).Who) ⟨h.cell 0 rfl, trivial⟩ (fun w hc => rl rfl (by kernel_rfl) (by kernel_rfl) hc.1) fun a hr => ?_
         refine evDs hgo ⟨⟨h.cell 0 rfl, trivial⟩, ⟨h.cell 3 rfl, trivial⟩, ⟨(h.pick 1).cell 2 rfl, trivial⟩, ⟨(h.pick 1).cell 2 rfl, trivial⟩, ⟨(h.pick 2).row_cell encZ_i64_ok (f := 0) (at_ok c74) rfl, trivial⟩, ⟨h.cell 0 rfl, trivial⟩, trivial⟩ 22 3 rfl (wn rfl) hr (vB ((at_ r44.Log g65.toNat).Who != g64)) fun a hr => ?_
         refine evs 21 4 rfl (wn rfl) hr (vB ((at_ r44.Log g65.toNat).Who != g64)) fun a hr => ?_
         refine evDs hgo ⟨⟨h.cell 0 rfl, trivial⟩, ⟨h.cell 3 rfl, trivial⟩, ⟨(h.pick 1).cell 2 rfl, trivial⟩, ⟨(h.pick 1).cell 2 rfl, trivial⟩, ⟨(h.pick 2).row_cell encZ_i64_ok (f := 0) (at_ok c74) rfl, trivial⟩, ⟨h.cell 0 rfl, trivial⟩, trivial⟩ 20 5 rfl (wgt hr (bne_eq_false_iff_eq.mpr c71)) hr (pA b68 3) fun a hr => ?_
         refine el [0, 3, 5, 7, 11, 13, 14, 17, 20, 22] (b := b68) (off := 3) (cs := [vI (at_ r44.Log g65.toNat).A]) (fun _ hk => ⟨hk, fun w hD => hD.2.1⟩) 19 6 rfl (by kernel_rfl) (wgt hr (bne_eq_false_iff_eq.mpr c71)) hr (vI (at_ r44.Log g65.toNat).A) ⟨h.cell 3 rfl, trivial⟩ (fun w hc => rl rfl (by kernel_rfl) (by kernel_rfl) hc.1) fun a hr => ?_
         refine evDs hgo ⟨⟨h.cell 0 rfl, trivial⟩, ⟨h.cell 3 rfl, trivial⟩, ⟨(h.pick 1).cell 2 rfl, trivial⟩, ⟨(h.pick 1).cell 2 rfl, trivial⟩, ⟨(h.pick 2).row_cell encZ_i64_ok (f := 0) (at_ok c74) rfl, trivial⟩, ⟨h.cell 0 rfl, trivial⟩, trivial⟩ 18 7 rfl (wgt hr (bne_eq_false_iff_eq.mpr c71)) hr (vB ((at_ r44.Log g65.toNat).A != 1)) fun a hr => ?_
         refine ev 17 8 rfl (by kernel_rfl) (wn rfl) hr (vB ((at_ r44.Log g65.toNat).A != 1)) (fun w => rp_f (b := ((at_ r44.Log g65.toNat).Who != g64)) rfl (by kernel_rfl) (bne_eq_false_iff_eq.mpr c71) (by kernel_rfl)) fun a hr => ?_
         refine evs 16 9 rfl (wn rfl) hr (vB ((at_ r44.Log g65.toNat).A != 1)) fun a hr => ?_
         refine evs 15 10 rfl (wgt hr (bne_eq_false_iff_eq.mpr c72)) hr (vI g63) fun a hr => ?_
         refine evDs hgo ⟨⟨h.cell 0 rfl, trivial⟩, ⟨h.cell 3 rfl, trivial⟩, ⟨(h.pick 1).cell 2 rfl, trivial⟩, ⟨(h.pick 1).cell 2 rfl, trivial⟩, ⟨(h.pick 2).row_cell encZ_i64_ok (f := 0) (at_ok c74) rfl, trivial⟩, ⟨h.cell 0 rfl, trivial⟩, trivial⟩ 14 11 rfl (wgt hr (bne_eq_false_iff_eq.mpr c72)) hr (pA b54 2) fun a hr => ?_
         refine el [0, 3, 5, 7, 11, 13, 14, 17, 20, 22] (b := b54) (off := 2) (cs := [.slice car47 r44.Holders.length ccr48]) (fun _ hk => ⟨hk, fun w hD => hD.2.2.1⟩) 13 12 rfl (by kernel_rfl) (wgt hr (bne_eq_false_iff_eq.mpr c72)) hr (.slice car47 r44.Holders.length ccr48) ⟨(h.pick 1).cell 2 rfl, trivial⟩ (fun w hc => rl rfl (by kernel_rfl) (by kernel_rfl) hc.1) fun a hr => ?_
         refine evDs hgo ⟨⟨h.cell 0 rfl, trivial⟩, ⟨h.cell 3 rfl, trivial⟩, ⟨(h.pick 1).cell 2 rfl, trivial⟩, ⟨(h.pick 1).cell 2 rfl, trivial⟩, ⟨(h.pick 2).row_cell encZ_i64_ok (f := 0) (at_ok c74) rfl, trivial⟩, ⟨h.cell 0 rfl, trivial⟩, trivial⟩ 12 13 rfl (wgt hr (bne_eq_false_iff_eq.mpr c72)) hr (vI ((r44.Holders.length : Nat) : Int)) fun a hr => ?_
         refine evDs hgo ⟨⟨h.cell 0 rfl, trivial⟩, ⟨h.cell 3 rfl, trivial⟩, ⟨(h.pick 1).cell 2 rfl, trivial⟩, ⟨(h.pick 1).cell 2 rfl, trivial⟩, ⟨(h.pick 2).row_cell encZ_i64_ok (f := 0) (at_ok c74) rfl, trivial⟩, ⟨h.cell 0 rfl, trivial⟩, trivial⟩ 11 14 rfl (wgt hr (bne_eq_false_iff_eq.mpr c72)) hr (vB (decide (g63 ≥ ((r44.Holders.length : Nat) : Int)))) fun a hr => ?_
         refine ev 10 15 rfl (by kernel_rfl) (wn rfl) hr (vB (decide (g63 ≥ ((r44.Holders.length : Nat) : Int)))) (fun w => rp_f (b := ((at_ r44.Log g65.toNat).A != 1)) rfl (by kernel_rfl) (bne_eq_false_iff_eq.mpr c72) (by kernel_rfl)) fun a hr => ?_
         refine evs 9 16 rfl (wn rfl) hr (vB (decide (g63 ≥ ((r44.Holders.length : Nat) : Int)))) fun a hr => ?_
         refine evDs hgo ⟨⟨h.cell 0 rfl, trivial⟩, ⟨h.cell 3 rfl, trivial⟩, ⟨(h.pick 1).cell 2 rfl, trivial⟩, ⟨(h.pick 1).cell 2 rfl, trivial⟩, ⟨(h.pick 2).row_cell encZ_i64_ok (f := 0) (at_ok c74) rfl, trivial⟩, ⟨h.cell 0 rfl, trivial⟩, trivial⟩ 8 17 rfl (wgt hr (decide_eq_false c73)) hr (pA b54 2) fun a hr => ?_
         refine evs 7 19 rfl (wgt hr (decide_eq_false c73)) hr (vI g63) fun a hr => ?_
         refine evDs hgo ⟨⟨h.cell 0 rfl, trivial⟩, ⟨h.cell 3 rfl, trivial⟩, ⟨(h.pick 1).cell 2 rfl, trivial⟩, ⟨(h.pick 1).cell 2 rfl, trivial⟩, ⟨(h.pick 2).row_cell encZ_i64_ok (f := 0) (at_ok c74) rfl, trivial⟩, ⟨h.cell 0 rfl, trivial⟩, trivial⟩ 6 22 rfl (wgt hr (decide_eq_false c73)) hr (pA b68 0) fun a hr => ?_
         refine el [0, 3, 5, 7, 11, 13, 14, 17, 20, 22] (b := b54) (off := 2) (cs := [.slice car47 r44.Holders.length ccr48]) (fun _ hk => ⟨hk, fun w hD => hD.2.2.2.1⟩) 5 18 rfl (by kernel_rfl) (wgt hr (decide_eq_false c73)) hr (.slice car47 r44.Holders.length ccr48) ⟨(h.pick 1).cell 2 rfl, trivial⟩ (fun w hc => rl rfl (by kernel_rfl) (by kernel_rfl) hc.1) fun a hr => ?_
         refine evD hgo ⟨⟨h.cell 0 rfl, trivial⟩, ⟨h.cell 3 rfl, trivial⟩, ⟨(h.pick 1).cell 2 rfl, trivial⟩, ⟨(h.pick 1).cell 2 rfl, trivial⟩, ⟨(h.pick 2).row_cell encZ_i64_ok (f := 0) (at_ok c74) rfl, trivial⟩, ⟨h.cell 0 rfl, trivial⟩, trivial⟩ 4 20 rfl (by kernel_rfl) (wgt hr (decide_eq_false c73)) hr (pA (blk car47) (g63.toNat * 1)) (fun w => ri_row (k := .i64) (E := 3) rfl (by kernel_rfl) (by kernel_rfl) (by kernel_rfl) (by kernel_rfl) (h.pick 2) c74) fun a hr => ?_
         refine el [0, 3, 5, 7, 11, 13, 14, 17, 20, 22] (b := blk car47) (off := g63.toNat * 1) (cs := [vI (at_ r44.Holders g63.toNat)]) (fun _ hk => ⟨hk, fun w hD => hD.2.2.2.2.1⟩) 3 21 rfl (by kernel_rfl) (wgt hr (decide_eq_false c73)) hr (vI (at_ r44.Holders g63.toNat)) ⟨(h.pick 2).row_cell encZ_i64_ok (f := 0) (at_ok c74) rfl, trivial⟩ (fun w hc => rl rfl (by kernel_rfl) (by kernel_rfl) hc.1) fun a hr => ?_
         refine el [0, 3, 5, 7, 11, 13, 14, 17, 20, 22] (b := b68) (off := 0) (cs := [vI (at_ r44.Log g65.toNat).Who]) (fun _ hk => ⟨hk, fun w hD => hD.2.2.2.2.2.1⟩) 2 23 rfl (by kernel_rfl) (wgt hr (decide_eq_false c73)) hr (vI (at_ r44.Log g65.toNat).Who) ⟨h.cell 0 rfl, trivial⟩ (fun w hc => rl rfl (by kernel_rfl) (by kernel_rfl) hc.1) fun a hr => ?_
         refine evs 1 24 rfl (wgt hr (decide_eq_false c73)) hr (vB ((at_ r44.Holders g63.toNat) != (at_ r44.Log g65.toNat).Who)) fun a hr => ?_
         refine ev 0 25 rfl (by kernel_rfl) (wn rfl) hr (vB ((at_ r44.Holders g63.toNat) != (at_ r44.Log g65.toNat).Who)) (fun w => rp_f (b := (decide (g63 ≥ ((r44.Holders.length : Nat) : Int)))) rfl (by kernel_rfl) (decide_eq_false c73) (by kernel_rfl)) fun a hr => ?_
         refine e_end (by kernel_rfl) ?_
         refine then_normal ?_
         by_cases c75 : (at_ r44.Holders g63.toNat) = (at_ r44.Log g65.toNat).Who
         ·
          replace H := ifT c75 H
          refine cond_ff hr (bne_eq_false_iff_eq.mpr c75) ?_
          refine wp_skip ?_
          refine then_normal ?_
          refine sr ?_
          refine o1 hr (vI (-1)) fun a hr => ?_
          refine ln ?_
          refine sr ?_
          refine oo [91, 92, 8] [vI g63, vI (wi (g63 + 1)), vI (wi (g63 + 1))] hr fun a hr => ?_
          refine ln ?_
          refine wp_exit ?_
          refine then_exit ?_
          refine blk_here ?_
          refine then_normal ?_
          refine wp_region_lit ?_
          refine oo [48, 49, 10] [vI g65, vI (wi (g65 + 1)), vI (wi (g65 + 1))] hr fun a hr => ?_
          refine ln ?_
          replace hr := hr.fold2 [(6, pA b54 0), (8, vI (wi (g63 + 1))), (9, vI (-1)), (10, vI (wi (g65 + 1)))] (by kernel_rfl); obtain ⟨j, hr⟩ := hr
          replace h : Fit z (sepL (ob86 b54 r44 car47 ccr48 car49 ccr50 car51 ccr52 car53 r44.Log.length :: ro3 car47 ccr48 r44.Holders :: rn31 car49 ccr50 r44.Reads :: ro2 car51 ccr52 r44.Marks :: ro96 car53 r44.Log.length r44.Log :: L)) _ := h.sel 6 [1, 2, 3, 4, 5] (by kernel_rfl) (by kernel_rfl)
          exact ⟨_, ⟨(wi (g63 + 1)), -1, (wi (g65 + 1)), H, j, hr, h⟩, Nat.lt_succ_self _⟩
         ·
          replace H := ifF c75 H
          refine cond_tt hr (bne_iff_ne.mpr c75) ?_
          refine sr ?_
          refine o1 hr (vB false) fun a hr => ?_
          refine ln ?_
          refine wp_ret ?_
          refine then_ret ?_
          refine then_ret ?_
          refine blk_ret ?_
          refine then_ret ?_
          refine then_ret ?_
          refine blk_ret ?_
          refine then_ret ?_
          refine end_ret1 (v := vB false) rfl hr (by kernel_rfl) ?_
          replace h : Fit z (sepL (L)) _ := h.sel 6 [] (by kernel_rfl) (by kernel_rfl)
          replace H := ej1 H; subst H
          exact ⟨rfl, h⟩
       ·
        replace H := ifF c72 H
        refine reg_E (fun w => heldC w b68 0 ([vI (at_ r44.Log g65.toNat).Who]) ∧ heldC w b68 3 ([vI (at_ r44.Log g65.toNat).A]) ∧ True) [0, 3, 5] h (by kernel_rfl) ?_; intro w h
        change wpAnyE _ _ _ _ _ _ 26 (Array.replicate 26 false) a w
        have hgo : ∀ w w', CellsGo w w' → (heldC w b68 0 ([vI (at_ r44.Log g65.toNat).Who]) ∧ heldC w b68 3 ([vI (at_ r44.Log g65.toNat).A]) ∧ True) → heldC w' b68 0 ([vI (at_ r44.Log g65.toNat).Who]) ∧ heldC w' b68 3 ([vI (at_ r44.Log g65.toNat).A]) ∧ True := fun w w' g hD => ⟨heldC_go _ _ _ _ _ g hD.1, heldC_go _ _ _ _ _ g hD.2.1, trivial⟩
        refine evDs hgo ⟨⟨h.cell 0 rfl, trivial⟩, ⟨h.cell 3 rfl, trivial⟩, trivial⟩ 25 0 rfl (wn rfl) hr (pA b68 0) fun a hr => ?_
        refine evs 24 2 rfl (wn rfl) hr (vI g64) fun a hr => ?_
        refine el [0, 3, 5] (b := b68) (off := 0) (cs := [vI (at_ r44.Log g65.toNat).Who]) (fun _ hk => ⟨hk, fun w hD => hD.1⟩) 23 1 rfl (by kernel_rfl) (wn rfl) hr (vI (at_ r44.Log g65.toNat).Who) ⟨h.cell 0 rfl, trivial⟩ (fun w hc => rl rfl (by kernel_rfl) (by kernel_rfl) hc.1) fun a hr => ?_
        refine evDs hgo ⟨⟨h.cell 0 rfl, trivial⟩, ⟨h.cell 3 rfl, trivial⟩, trivial⟩ 22 3 rfl (wn rfl) hr (vB ((at_ r44.Log g65.toNat).Who != g64)) fun a hr => ?_
        refine evs 21 4 rfl (wn rfl) hr (vB ((at_ r44.Log g65.toNat).Who != g64)) fun a hr => ?_
        refine evDs hgo ⟨⟨h.cell 0 rfl, trivial⟩, ⟨h.cell 3 rfl, trivial⟩, trivial⟩ 20 5 rfl (wgt hr (bne_eq_false_iff_eq.mpr c71)) hr (pA b68 3) fun a hr => ?_
        refine el [0, 3, 5] (b := b68) (off := 3) (cs := [vI (at_ r44.Log g65.toNat).A]) (fun _ hk => ⟨hk, fun w hD => hD.2.1⟩) 19 6 rfl (by kernel_rfl) (wgt hr (bne_eq_false_iff_eq.mpr c71)) hr (vI (at_ r44.Log g65.toNat).A) ⟨h.cell 3 rfl, trivial⟩ (fun w hc => rl rfl (by kernel_rfl) (by kernel_rfl) hc.1) fun a hr => ?_
        refine evs 18 7 rfl (wgt hr (bne_eq_false_iff_eq.mpr c71)) hr (vB ((at_ r44.Log g65.toNat).A != 1)) fun a hr => ?_
        refine ev 17 8 rfl (by kernel_rfl) (wn rfl) hr (vB ((at_ r44.Log g65.toNat).A != 1)) (fun w => rp_f (b := ((at_ r44.Log g65.toNat).Who != g64)) rfl (by kernel_rfl) (bne_eq_false_iff_eq.mpr c71) (by kernel_rfl)) fun a hr => ?_
        refine evs 16 9 rfl (wn rfl) hr (vB ((at_ r44.Log g65.toNat).A != 1)) fun a hr => ?_
        refine eos 15 10 rfl (wgt hr (bne_iff_ne.mpr c72)) hr fun a hr => ?_
        refine eos 14 11 rfl (wgt hr (bne_iff_ne.mpr c72)) hr fun a hr => ?_
        refine eos 13 12 rfl (wgt hr (bne_iff_ne.mpr c72)) hr fun a hr => ?_
        refine eos 12 13 rfl (wgt hr (bne_iff_ne.mpr c72)) hr fun a hr => ?_
        refine eos 11 14 rfl (wgt hr (bne_iff_ne.mpr c72)) hr fun a hr => ?_
        refine ev 10 15 rfl (by kernel_rfl) (wn rfl) hr (vB true) (fun w => rp_t (b := ((at_ r44.Log g65.toNat).A != 1)) rfl (by kernel_rfl) (bne_iff_ne.mpr c72) (by kernel_rfl)) fun a hr => ?_
        refine evs 9 16 rfl (wn rfl) hr (vB true) fun a hr => ?_
        refine eos 8 17 rfl (wgt hr (c := true) rfl) hr fun a hr => ?_
        refine eos 7 19 rfl (wgt hr (c := true) rfl) hr fun a hr => ?_
        refine eos 6 22 rfl (wgt hr (c := true) rfl) hr fun a hr => ?_
        refine eos 5 18 rfl (wgt hr (c := true) rfl) hr fun a hr => ?_
        refine eos 4 20 rfl (wgt hr (c := true) rfl) hr fun a hr => ?_
        refine eos 3 21 rfl (wgt hr (c := true) rfl) hr fun a hr => ?_
        refine eos 2 23 rfl (wgt hr (c := true) rfl) hr fun a hr => ?_
        refine eos 1 24 rfl (wgt hr (c := true) rfl) hr fun a hr => ?_
        refine evs 0 25 rfl (wn rfl) hr (vB true) fun a hr => ?_
        refine e_end (by kernel_rfl) ?_
        refine then_normal ?_
        refine cond_tt hr (b := true) rfl ?_
        refine sr ?_
        refine o1 hr (vB false) fun a hr => ?_
        refine ln ?_
        refine wp_ret ?_
        refine then_ret ?_
        refine then_ret ?_
        refine blk_ret ?_
        refine then_ret ?_
        refine then_ret ?_
        refine blk_ret ?_
        refine then_ret ?_
        refine end_ret1 (v := vB false) rfl hr (by kernel_rfl) ?_
        replace h : Fit z (sepL (L)) _ := h.sel 6 [] (by kernel_rfl) (by kernel_rfl)
        replace H := ej1 H; subst H
        exact ⟨rfl, h⟩
      ·
       replace H := ifF c71 H
       refine reg_E (fun w => heldC w b68 0 ([vI (at_ r44.Log g65.toNat).Who]) ∧ True) [0] h (by kernel_rfl) ?_; intro w h
       change wpAnyE _ _ _ _ _ _ 26 (Array.replicate 26 false) a w
       have hgo : ∀ w w', CellsGo w w' → (heldC w b68 0 ([vI (at_ r44.Log g65.toNat).Who]) ∧ True) → heldC w' b68 0 ([vI (at_ r44.Log g65.toNat).Who]) ∧ True := fun w w' g hD => ⟨heldC_go _ _ _ _ _ g hD.1, trivial⟩
       refine evDs hgo ⟨⟨h.cell 0 rfl, trivial⟩, trivial⟩ 25 0 rfl (wn rfl) hr (pA b68 0) fun a hr => ?_
       refine evs 24 2 rfl (wn rfl) hr (vI g64) fun a hr => ?_
       refine el [0] (b := b68) (off := 0) (cs := [vI (at_ r44.Log g65.toNat).Who]) (fun _ hk => ⟨hk, fun w hD => hD.1⟩) 23 1 rfl (by kernel_rfl) (wn rfl) hr (vI (at_ r44.Log g65.toNat).Who) ⟨h.cell 0 rfl, trivial⟩ (fun w hc => rl rfl (by kernel_rfl) (by kernel_rfl) hc.1) fun a hr => ?_
       refine evs 22 3 rfl (wn rfl) hr (vB ((at_ r44.Log g65.toNat).Who != g64)) fun a hr => ?_
       refine evs 21 4 rfl (wn rfl) hr (vB ((at_ r44.Log g65.toNat).Who != g64)) fun a hr => ?_
       refine eos 20 5 rfl (wgt hr (bne_iff_ne.mpr c71)) hr fun a hr => ?_
       refine eos 19 6 rfl (wgt hr (bne_iff_ne.mpr c71)) hr fun a hr => ?_
       refine eos 18 7 rfl (wgt hr (bne_iff_ne.mpr c71)) hr fun a hr => ?_
       refine ev 17 8 rfl (by kernel_rfl) (wn rfl) hr (vB true) (fun w => rp_t (b := ((at_ r44.Log g65.toNat).Who != g64)) rfl (by kernel_rfl) (bne_iff_ne.mpr c71) (by kernel_rfl)) fun a hr => ?_
       refine evs 16 9 rfl (wn rfl) hr (vB true) fun a hr => ?_
       refine eos 15 10 rfl (wgt hr (c := true) rfl) hr fun a hr => ?_
       refine eos 14 11 rfl (wgt hr (c := true) rfl) hr fun a hr => ?_
       refine eos 13 12 rfl (wgt hr (c := true) rfl) hr fun a hr => ?_
       refine eos 12 13 rfl (wgt hr (c := true) rfl) hr fun a hr => ?_
       refine eos 11 14 rfl (wgt hr (c := true) rfl) hr fun a hr => ?_
       refine evs 10 15 rfl (wn rfl) hr (vB true) fun a hr => ?_
       refine evs 9 16 rfl (wn rfl) hr (vB true) fun a hr => ?_
       refine eos 8 17 rfl (wgt hr (c := true) rfl) hr fun a hr => ?_
       refine eos 7 19 rfl (wgt hr (c := true) rfl) hr fun a hr => ?_
       refine eos 6 22 rfl (wgt hr (c := true) rfl) hr fun a hr => ?_
       refine eos 5 18 rfl (wgt hr (c := true) rfl) hr fun a hr => ?_
       refine eos 4 20 rfl (wgt hr (c := true) rfl) hr fun a hr => ?_
       refine eos 3 21 rfl (wgt hr (c := true) rfl) hr fun a hr => ?_
       refine eos 2 23 rfl (wgt hr (c := true) rfl) hr fun a hr => ?_
       refine eos 1 24 rfl (wgt hr (c := true) rfl) hr fun a hr => ?_
       refine evs 0 25 rfl (wn rfl) hr (vB true) fun a hr => ?_
       refine e_end (by kernel_rfl) ?_
       refine then_normal ?_
       refine cond_tt hr (b := true) rfl ?_
       refine sr ?_
       refine o1 hr (vB false) fun a hr => ?_
       refine ln ?_
       refine wp_ret ?_
       refine then_ret ?_
       refine then_ret ?_
       refine blk_ret ?_
       refine then_ret ?_
       refine then_ret ?_
       refine blk_ret ?_
       refine then_ret ?_
       refine end_ret1 (v := vB false) rfl hr (by kernel_rfl) ?_
       replace h : Fit z (sepL (L)) _ := h.sel 6 [] (by kernel_rfl) (by kernel_rfl)
       replace H := ej1 H; subst H
       exact ⟨rfl, h⟩
     ·
      replace H := ifF c70 H
      refine cond_ff hr (beq_eq_false_iff_ne.mpr c70) ?_
      refine wp_skip ?_
      refine then_normal ?_
      refine wp_seq ?_
      refine sr ?_
      refine o1 hr (pA b68 1) fun a hr => ?_
      refine ld (wn rfl) hr (vI (at_ r44.Log g65.toNat).Kind) (h.cell 1 rfl) fun a hr => ?_
      refine oo [95, 96] [vB ((at_ r44.Log g65.toNat).Kind != 3), vB ((at_ r44.Log g65.toNat).Kind != 3)] hr fun a hr => ?_
      by_cases c76 : (at_ r44.Log g65.toNat).Kind = 3
      ·
       replace H := ifT c76 H
       refine opv (wgt hr (bne_eq_false_iff_eq.mpr c76)) hr (pA b68 4) (by kernel_rfl) fun a hr => ?_
       refine ld (wgt hr (bne_eq_false_iff_eq.mpr c76)) hr (vI (at_ r44.Log g65.toNat).B) (h.cell 4 rfl) fun a hr => ?_
       refine opv (wgt hr (bne_eq_false_iff_eq.mpr c76)) hr (vB (decide ((at_ r44.Log g65.toNat).B < 0))) (by kernel_rfl) fun a hr => ?_
       refine opv (wn rfl) hr (vB (decide ((at_ r44.Log g65.toNat).B < 0))) (rp_f (b := ((at_ r44.Log g65.toNat).Kind != 3)) rfl (by kernel_rfl) (bne_eq_false_iff_eq.mpr c76) (by kernel_rfl)) fun a hr => ?_
       refine o1 hr (vB (decide ((at_ r44.Log g65.toNat).B < 0))) fun a hr => ?_
       by_cases c77 : (at_ r44.Log g65.toNat).B < 0
       ·
        replace H := ifT c77 H
        refine offg (wgt hr (decide_eq_true c77)) hr fun a hr => ?_
        refine offg (wgt hr (decide_eq_true c77)) hr fun a hr => ?_
        refine opv (wn rfl) hr (vB true) (rp_t (b := (decide ((at_ r44.Log g65.toNat).B < 0))) rfl (by kernel_rfl) (decide_eq_true c77) (by kernel_rfl)) fun a hr => ?_
        refine ln ?_
        refine cond_tt hr (b := true) rfl ?_
        refine sr ?_
        refine o1 hr (vB false) fun a hr => ?_
        refine ln ?_
        refine wp_ret ?_
        refine then_ret ?_
        refine blk_ret ?_
        refine then_ret ?_
        refine then_ret ?_
        refine blk_ret ?_
        refine then_ret ?_
        refine end_ret1 (v := vB false) rfl hr (by kernel_rfl) ?_
        replace h : Fit z (sepL (L)) _ := h.sel 6 [] (by kernel_rfl) (by kernel_rfl)
        replace H := ej1 H; subst H
        exact ⟨rfl, h⟩
       ·
        replace H := ifF c77 H
        refine opv (wgt hr (decide_eq_false c77)) hr (vI g64) (by kernel_rfl) fun a hr => ?_
        refine opv (wgt hr (decide_eq_false c77)) hr (vB (decide (g64 ≥ 0))) (by kernel_rfl) fun a hr => ?_
        refine opv (wn rfl) hr (vB (decide (g64 ≥ 0))) (rp_f (b := (decide ((at_ r44.Log g65.toNat).B < 0))) rfl (by kernel_rfl) (decide_eq_false c77) (by kernel_rfl)) fun a hr => ?_
        refine ln ?_
        by_cases c78 : g64 ≥ 0
        ·
         replace H := ifT c78 H
         refine cond_tt hr (decide_eq_true c78) ?_
         refine sr ?_
         refine o1 hr (vB false) fun a hr => ?_
         refine ln ?_
         refine wp_ret ?_
         refine then_ret ?_
         refine blk_ret ?_
         refine then_ret ?_
         refine then_ret ?_
         refine blk_ret ?_
         refine then_ret ?_
         refine end_ret1 (v := vB false) rfl hr (by kernel_rfl) ?_
         replace h : Fit z (sepL (L)) _ := h.sel 6 [] (by kernel_rfl) (by kernel_rfl)
         replace H := ej1 H; subst H
         exact ⟨rfl, h⟩
        ·
         replace H := ifF c78 H
         refine cond_ff hr (decide_eq_false c78) ?_
         refine wp_skip ?_
         refine then_normal ?_
         refine sr ?_
         refine o1 hr (pA b68 4) fun a hr => ?_
         refine ld (wn rfl) hr (vI (at_ r44.Log g65.toNat).B) (h.cell 4 rfl) fun a hr => ?_
         refine o1 hr (vB ((at_ r44.Log g65.toNat).B == 0)) fun a hr => ?_
         refine ln ?_
         by_cases c79 : (at_ r44.Log g65.toNat).B = 0
         ·
          replace H := ifT c79 H
          refine cond_tt hr (beq_iff_eq.mpr c79) ?_
          refine wp_region_lit ?_
          refine o1 hr (pA b68 0) fun a hr => ?_
          refine ld (wn rfl) hr (vI (at_ r44.Log g65.toNat).Who) (h.cell 0 rfl) fun a hr => ?_
          refine o1 hr (vI (at_ r44.Log g65.toNat).Who) fun a hr => ?_
          refine wpList_nil ?_
          refine blk_normal ?_
          refine then_normal ?_
          refine wp_region_lit ?_
          refine oo [48, 49, 10] [vI g65, vI (wi (g65 + 1)), vI (wi (g65 + 1))] hr fun a hr => ?_
          refine ln ?_
          replace hr := hr.fold2 [(6, pA b54 0), (8, vI g63), (9, vI (at_ r44.Log g65.toNat).Who), (10, vI (wi (g65 + 1)))] (by kernel_rfl); obtain ⟨j, hr⟩ := hr
          replace h : Fit z (sepL (ob86 b54 r44 car47 ccr48 car49 ccr50 car51 ccr52 car53 r44.Log.length :: ro3 car47 ccr48 r44.Holders :: rn31 car49 ccr50 r44.Reads :: ro2 car51 ccr52 r44.Marks :: ro96 car53 r44.Log.length r44.Log :: L)) _ := h.sel 6 [1, 2, 3, 4, 5] (by kernel_rfl) (by kernel_rfl)
          exact ⟨_, ⟨g63, (at_ r44.Log g65.toNat).Who, (wi (g65 + 1)), H, j, hr, h⟩, Nat.lt_succ_self _⟩
         ·
          replace H := ifF c79 H
          refine cond_ff hr (beq_eq_false_iff_ne.mpr c79) ?_
          refine wp_skip ?_
          refine blk_normal ?_
          refine then_normal ?_
          refine wp_region_lit ?_
          refine oo [48, 49, 10] [vI g65, vI (wi (g65 + 1)), vI (wi (g65 + 1))] hr fun a hr => ?_
          refine ln ?_
          replace hr := hr.fold2 [(6, pA b54 0), (8, vI g63), (9, vI g64), (10, vI (wi (g65 + 1)))] (by kernel_rfl); obtain ⟨j, hr⟩ := hr
          replace h : Fit z (sepL (ob86 b54 r44 car47 ccr48 car49 ccr50 car51 ccr52 car53 r44.Log.length :: ro3 car47 ccr48 r44.Holders :: rn31 car49 ccr50 r44.Reads :: ro2 car51 ccr52 r44.Marks :: ro96 car53 r44.Log.length r44.Log :: L)) _ := h.sel 6 [1, 2, 3, 4, 5] (by kernel_rfl) (by kernel_rfl)
          exact ⟨_, ⟨g63, g64, (wi (g65 + 1)), H, j, hr, h⟩, Nat.lt_succ_self _⟩
      ·
       replace H := ifF c76 H
       refine offg (wgt hr (bne_iff_ne.mpr c76)) hr fun a hr => ?_
       refine offg (wgt hr (bne_iff_ne.mpr c76)) hr fun a hr => ?_
       refine offg (wgt hr (bne_iff_ne.mpr c76)) hr fun a hr => ?_
       refine opv (wn rfl) hr (vB true) (rp_t (b := ((at_ r44.Log g65.toNat).Kind != 3)) rfl (by kernel_rfl) (bne_iff_ne.mpr c76) (by kernel_rfl)) fun a hr => ?_
       refine o1 hr (vB true) fun a hr => ?_
       refine offg (wgt hr (c := true) rfl) hr fun a hr => ?_
       refine offg (wgt hr (c := true) rfl) hr fun a hr => ?_
       refine o1 hr (vB true) fun a hr => ?_
       refine ln ?_
       refine cond_tt hr (b := true) rfl ?_
       refine sr ?_
       refine o1 hr (vB false) fun a hr => ?_
       refine ln ?_
       refine wp_ret ?_
       refine then_ret ?_
       refine blk_ret ?_
       refine then_ret ?_
       refine then_ret ?_
       refine blk_ret ?_
       refine then_ret ?_
       refine end_ret1 (v := vB false) rfl hr (by kernel_rfl) ?_
       replace h : Fit z (sepL (L)) _ := h.sel 6 [] (by kernel_rfl) (by kernel_rfl)
       replace H := ej1 H; subst H
       exact ⟨rfl, h⟩
    ·
     replace H := ifF c69 H
     refine cond_tt hr (bne_iff_ne.mpr c69) ?_
     refine wp_seq ?_
     refine sr ?_
     refine o1 hr (pA b68 0) fun a hr => ?_
     refine ld (wn rfl) hr (vI (at_ r44.Log g65.toNat).Who) (h.cell 0 rfl) fun a hr => ?_
     refine oo [60, 61] [vI g64, vB ((at_ r44.Log g65.toNat).Who == g64)] hr fun a hr => ?_
     refine ln ?_
     by_cases c80 : (at_ r44.Log g65.toNat).Who = g64
     ·
      replace H := ifT c80 H
      refine cond_tt hr (beq_iff_eq.mpr c80) ?_
      refine sr ?_
      refine o1 hr (vB false) fun a hr => ?_
      refine ln ?_
      refine wp_ret ?_
      refine then_ret ?_
      refine then_ret ?_
      refine blk_ret ?_
      refine then_ret ?_
      refine then_ret ?_
      refine blk_ret ?_
      refine then_ret ?_
      refine end_ret1 (v := vB false) rfl hr (by kernel_rfl) ?_
      replace h : Fit z (sepL (L)) _ := h.sel 6 [] (by kernel_rfl) (by kernel_rfl)
      replace H := ej1 H; subst H
      exact ⟨rfl, h⟩
     ·
      replace H := ifF c80 H
      refine cond_ff hr (beq_eq_false_iff_ne.mpr c80) ?_
      refine wp_skip ?_
      refine then_normal ?_
      refine wp_exit ?_
      refine then_exit ?_
      refine blk_here ?_
      refine then_normal ?_
      refine wp_region_lit ?_
      refine oo [48, 49, 10] [vI g65, vI (wi (g65 + 1)), vI (wi (g65 + 1))] hr fun a hr => ?_
      refine ln ?_
      replace hr := hr.fold2 [(6, pA b54 0), (8, vI g63), (9, vI g64), (10, vI (wi (g65 + 1)))] (by kernel_rfl); obtain ⟨j, hr⟩ := hr
      replace h : Fit z (sepL (ob86 b54 r44 car47 ccr48 car49 ccr50 car51 ccr52 car53 r44.Log.length :: ro3 car47 ccr48 r44.Holders :: rn31 car49 ccr50 r44.Reads :: ro2 car51 ccr52 r44.Marks :: ro96 car53 r44.Log.length r44.Log :: L)) _ := h.sel 6 [1, 2, 3, 4, 5] (by kernel_rfl) (by kernel_rfl)
      exact ⟨_, ⟨g63, g64, (wi (g65 + 1)), H, j, hr, h⟩, Nat.lt_succ_self _⟩
   ·
    replace H := ifF c66 H
    refine cond_ff hr (decide_eq_false c66) ?_
    refine wp_exit ?_
    refine then_exit ?_
    refine then_exit ?_
    refine blk_here ?_
    refine then_normal ?_
    refine sr ?_
    refine oo [110, 111] [vI g63, pA b54 2] hr fun a hr => ?_
    refine ld (wn rfl) hr (.slice car47 r44.Holders.length ccr48) (h.cell 2 rfl) fun a hr => ?_
    refine oo [113, 114, 4] [vI ((r44.Holders.length : Nat) : Int), vB (g63 == ((r44.Holders.length : Nat) : Int)), vB (g63 == ((r44.Holders.length : Nat) : Int))] hr fun a hr => ?_
    refine ln ?_
    refine wp_ret ?_
    refine end_ret1 (v := vB (g63 == ((r44.Holders.length : Nat) : Int))) rfl hr (by kernel_rfl) ?_
    replace h : Fit z (sepL (L)) _ := h.sel 5 [] (by kernel_rfl) (by kernel_rfl)
    replace H := ej1 H; subst H
    exact ⟨rfl, h⟩


end Go.Proofs.Ytnghahgfcaolbaa.Mo
