/- what the functions compute, as plain Lean functions, and that they do -/
import Derived.Test.YtnghahgfcaolbaaFy3
namespace Go.Proofs.Ytnghahgfcaolbaa.Mo
open Go Go.RowKit Go.Proofs.Ytnghahgfcaolbaa.SL Go.Proofs.Ytnghahgfcaolbaa.GX
set_option linter.unusedVariables false
set_option linter.unusedSimpArgs false

set_option maxRecDepth 100000 in
set_option maxHeartbeats 4000000 in
theorem plunderlaw8_FramesSync_ok {z w : World} {L : List HProp} {K : Nat} {p0 : List Int} {p1 : List Int} {va0 : Option Addr} {vc0 : Nat} {va1 : Option Addr} {vc1 : Nat} {r0 : Bool} (H : plunderlaw8_FramesSync K p0 p1 = some r0) (h : Fit z (sepL (L)) w) (hv0 : RdRow L 1 encZ_i64 va0 p0) (hv1 : RdRow L 1 encZ_i64 va1 p1) (hc1 : p1.length ≤ vc1) :
    Calls Try.prog 10 #[.slice va0 p0.length vc0, .slice va1 p1.length vc1] w fun e w => e = .returned (vB r0) ∧ Fit z (sepL (L)) w := by
 unfold plunderlaw8_FramesSync at H
 refine enter Try.func10 rfl 179 rfl rfl [(0, .slice va0 p0.length vc0), (1, .slice va1 p1.length vc1)] ⟨rfl, rfl, trivial⟩ ?_
 intro j a hr
 refine sr ?_
 refine o1 hr (vB false) fun a hr => ?_
 refine ln ?_
 refine sr ?_
 obtain ⟨r1, e2, H⟩ := bd1 H
 refine o1 hr (.slice va0 p0.length vc0) fun a hr => ?_
 have hc := plunderlaw8_tidy_ok (va0 := va0) (vc0 := vc0) (hv0 := (RdRow.up 0 hv0)) (H := e2) (h := h)
 refine cl (wn rfl) hr hc ?_; clear hc h
 rintro _ w ⟨car3, ccr4, rfl, h⟩; refine ⟨_, rfl, fun a hr => ?_⟩
 refine o1 hr (.slice car3 r1.length ccr4) fun a hr => ?_
 refine ln ?_
 refine sr ?_
 refine oo [17, 18] [.slice car3 r1.length ccr4, .slice va1 p1.length vc1] hr fun a hr => ?_
 refine op_inl (wn rfl) rfl rfl hr (f := 50) (args := #[.slice va1 p1.length vc1]) (by kernel_rfl) ?_; clear hr a
 refine enter Try.func50 rfl 9 rfl rfl [(0, .slice va1 p1.length vc1)] ⟨by kernel_rfl, trivial⟩ ?_; intro j a hr
 refine sr ?_
 refine o1 hr (.slice none 0 0) fun a hr => ?_
 refine ln ?_
 refine wp_seq ?_
 refine sr ?_
 refine oo [3, 4, 5] [.slice va1 p1.length vc1, vI ((p1.length : Nat) : Int), vB (decide (((p1.length : Nat) : Int) > 1048576))] hr fun a hr => ?_
 refine ln ?_
 by_cases c5 : ((p1.length : Nat) : Int) > 1048576
 ·
  replace H := ifT c5 H
  refine cond_tt hr (decide_eq_true c5) ?_
  refine sr ?_
  obtain ⟨c6, H⟩ := gd H
  refine o1 hr (.slice va1 p1.length vc1) fun a hr => ?_
  refine opv (wn rfl) hr (.slice va1 (p1.take 1048576).length vc1) (rslr (k := .i64) (E := 3) (sz := 1) (xs := p1) rfl (by kernel_rfl) (by kernel_rfl) (by kernel_rfl) (by kernel_rfl) hc1 c6) fun a hr => ?_
  refine o1 hr (.slice va1 (p1.take 1048576).length vc1) fun a hr => ?_
  refine ln ?_
  refine wp_ret ?_
  refine then_ret ?_
  refine end_ret1 (v := .slice va1 (p1.take 1048576).length vc1) rfl hr (by kernel_rfl) ?_
  refine ⟨_, rfl, ?_⟩; clear hr a; intro a hr
  obtain ⟨r7, r8, e9, H⟩ := bd2 H
  have hc := frames_Play_ok (va0 := car3) (vc0 := ccr4) (va1 := va1) (vc1 := vc1) (hv0 := (RdRow.of_row encZ_i64_ok h (fun h => h))) (hv1 := (RdRow.up 1 (RdRow.take hv1 _))) (H := e9) (h := h)
  refine cl (wn rfl) hr hc ?_; clear hc h
  rintro _ w ⟨car10, ccr11, car12, ccr13, car14, ccr15, car16, rfl, h⟩; refine ⟨_, rfl, fun a hr => ?_⟩
  refine oo [16, 21, 22] [.tuple #[.agg #[vB r7.Done, vI r7.Steps, .slice car10 r7.Holders.length ccr11, .slice car12 r7.Reads.length ccr13, .slice car14 r7.Marks.length ccr15, .slice car16 r7.Log.length r7.Log.length], vI r8], .agg #[vB r7.Done, vI r7.Steps, .slice car10 r7.Holders.length ccr11, .slice car12 r7.Reads.length ccr13, .slice car14 r7.Marks.length ccr15, .slice car16 r7.Log.length r7.Log.length], vI r8] hr fun a hr => ?_
  refine onew (wn rfl) hr h nb (#[vB false, vI 0, .slice none 0 0, .slice none 0 0, .slice none 0 0, .slice none 0 0]) 86 fun b17 w a h hr => ?_
  refine stos (wn rfl) hr h 0 ([vB r7.Done, vI r7.Steps, .slice car10 r7.Holders.length ccr11, .slice car12 r7.Reads.length ccr13, .slice car14 r7.Marks.length ccr15, .slice car16 r7.Log.length r7.Log.length]) (#[vB r7.Done, vI r7.Steps, .slice car10 r7.Holders.length ccr11, .slice car12 r7.Reads.length ccr13, .slice car14 r7.Marks.length ccr15, .slice car16 r7.Log.length r7.Log.length]) fun w h => ?_
  refine o1 hr (vI r8) fun a hr => ?_
  refine wpList_nil ?_
  replace h : Fit z (sepL (ob86 b17 r7 car10 ccr11 car12 ccr13 car14 ccr15 car16 r7.Log.length :: ro3 car10 ccr11 r7.Holders :: rn31 car12 ccr13 r7.Reads :: ro2 car14 ccr15 r7.Marks :: ro96 car16 r7.Log.length r7.Log :: ro3 car3 ccr4 r1 :: L)) _ := h
  refine then_normal ?_
  obtain ⟨o19, H, hK18⟩ := jd0 H
  refine cut_rule (β := Unit) (fun _ a w => .inl () = o19 ∧ ∃ j, Rep 179 (lk [(1, .slice va1 p1.length vc1), (5, .slice car3 r1.length ccr4), (6, pA b17 0)] j) a ∧ Fit z (sepL (ro3 car3 ccr4 r1 :: ob86 b17 r7 car10 ccr11 car12 ccr13 car14 ccr15 car16 r7.Log.length :: ro3 car10 ccr11 r7.Holders :: rn31 car12 ccr13 r7.Reads :: ro2 car14 ccr15 r7.Marks :: ro96 car16 r7.Log.length r7.Log :: L)) w) ?_ ?_
  ·
   refine sr ?_
   refine oo [23, 24, 25] [vI r8, vB (r8 != 0), vB (r8 != 0)] hr fun a hr => ?_
   by_cases c20 : r8 = 0
   ·
    replace H := ifT c20 H
    refine opv (wgt hr (bne_eq_false_iff_eq.mpr c20)) hr (pA b17 3) (by kernel_rfl) fun a hr => ?_
    refine ld (wgt hr (bne_eq_false_iff_eq.mpr c20)) hr (.slice car12 r7.Reads.length ccr13) (h.cell 3 rfl) fun a hr => ?_
    refine opv (wgt hr (bne_eq_false_iff_eq.mpr c20)) hr (vI ((r7.Reads.length : Nat) : Int)) (by kernel_rfl) fun a hr => ?_
    refine opv (wgt hr (bne_eq_false_iff_eq.mpr c20)) hr (pA b17 2) (by kernel_rfl) fun a hr => ?_
    refine ld (wgt hr (bne_eq_false_iff_eq.mpr c20)) hr (.slice car10 r7.Holders.length ccr11) (h.cell 2 rfl) fun a hr => ?_
    refine opv (wgt hr (bne_eq_false_iff_eq.mpr c20)) hr (vI ((r7.Holders.length : Nat) : Int)) (by kernel_rfl) fun a hr => ?_
    refine opv (wgt hr (bne_eq_false_iff_eq.mpr c20)) hr (vB (((r7.Reads.length : Nat) : Int) != ((r7.Holders.length : Nat) : Int))) (by kernel_rfl) fun a hr => ?_
    refine opv (wn rfl) hr (vB (((r7.Reads.length : Nat) : Int) != ((r7.Holders.length : Nat) : Int))) (rp_f (b := (r8 != 0)) rfl (by kernel_rfl) (bne_eq_false_iff_eq.mpr c20) (by kernel_rfl)) fun a hr => ?_
    refine o1 hr (vB (((r7.Reads.length : Nat) : Int) != ((r7.Holders.length : Nat) : Int))) fun a hr => ?_
    by_cases c21 : ((r7.Reads.length : Nat) : Int) = ((r7.Holders.length : Nat) : Int)
    ·
     replace H := ifT c21 H
     refine opv (wgt hr (bne_eq_false_iff_eq.mpr c21)) hr (pA b17 3) (by kernel_rfl) fun a hr => ?_
     refine ld (wgt hr (bne_eq_false_iff_eq.mpr c21)) hr (.slice car12 r7.Reads.length ccr13) (h.cell 3 rfl) fun a hr => ?_
     refine opv (wgt hr (bne_eq_false_iff_eq.mpr c21)) hr (vI ((r7.Reads.length : Nat) : Int)) (by kernel_rfl) fun a hr => ?_
     refine opv (wgt hr (bne_eq_false_iff_eq.mpr c21)) hr (.slice car3 r1.length ccr4) (by kernel_rfl) fun a hr => ?_
     refine opv (wgt hr (bne_eq_false_iff_eq.mpr c21)) hr (vI ((r1.length : Nat) : Int)) (by kernel_rfl) fun a hr => ?_
     refine opv (wgt hr (bne_eq_false_iff_eq.mpr c21)) hr (vB (decide (((r7.Reads.length : Nat) : Int) > ((r1.length : Nat) : Int)))) (by kernel_rfl) fun a hr => ?_
     refine opv (wn rfl) hr (vB (decide (((r7.Reads.length : Nat) : Int) > ((r1.length : Nat) : Int)))) (rp_f (b := (((r7.Reads.length : Nat) : Int) != ((r7.Holders.length : Nat) : Int))) rfl (by kernel_rfl) (bne_eq_false_iff_eq.mpr c21) (by kernel_rfl)) fun a hr => ?_
     refine ln ?_
     by_cases c22 : ((r7.Reads.length : Nat) : Int) > ((r1.length : Nat) : Int)
     ·
      replace H := ifT c22 H
      refine cond_tt hr (decide_eq_true c22) ?_
      refine sr ?_
      refine o1 hr (vB false) fun a hr => ?_
      refine ln ?_
      refine wp_ret ?_
      refine then_ret ?_
      refine end_ret1 (v := vB false) rfl hr (by kernel_rfl) ?_
      replace H := jx0 H hK18
      replace h : Fit z (sepL (L)) _ := h.sel 6 [] (by kernel_rfl) (by kernel_rfl)
      replace H := ej1 H; subst H
      exact ⟨rfl, h⟩
     ·
      replace H := ifF c22 H
      refine cond_ff hr (decide_eq_false c22) ?_
      refine wp_skip ?_
      refine then_normal ?_
      replace hr := hr.fold2 [(1, .slice va1 p1.length vc1), (5, .slice car3 r1.length ccr4), (6, pA b17 0)] (by kernel_rfl); obtain ⟨j, hr⟩ := hr
      replace h : Fit z (sepL (ro3 car3 ccr4 r1 :: ob86 b17 r7 car10 ccr11 car12 ccr13 car14 ccr15 car16 r7.Log.length :: ro3 car10 ccr11 r7.Holders :: rn31 car12 ccr13 r7.Reads :: ro2 car14 ccr15 r7.Marks :: ro96 car16 r7.Log.length r7.Log :: L)) _ := h.sel 6 [5, 0, 1, 2, 3, 4] (by kernel_rfl) (by kernel_rfl)
      exact ⟨(), sinj H, j, hr, h⟩
    ·
     replace H := ifF c21 H
     refine offg (wgt hr (bne_iff_ne.mpr c21)) hr fun a hr => ?_
     refine offg (wgt hr (bne_iff_ne.mpr c21)) hr fun a hr => ?_
     refine offg (wgt hr (bne_iff_ne.mpr c21)) hr fun a hr => ?_
     refine offg (wgt hr (bne_iff_ne.mpr c21)) hr fun a hr => ?_
     refine offg (wgt hr (bne_iff_ne.mpr c21)) hr fun a hr => ?_
     refine offg (wgt hr (bne_iff_ne.mpr c21)) hr fun a hr => ?_
     refine opv (wn rfl) hr (vB true) (rp_t (b := (((r7.Reads.length : Nat) : Int) != ((r7.Holders.length : Nat) : Int))) rfl (by kernel_rfl) (bne_iff_ne.mpr c21) (by kernel_rfl)) fun a hr => ?_
     refine ln ?_
     refine cond_tt hr (b := true) rfl ?_
     refine sr ?_
     refine o1 hr (vB false) fun a hr => ?_
     refine ln ?_
     refine wp_ret ?_
     refine then_ret ?_
     refine end_ret1 (v := vB false) rfl hr (by kernel_rfl) ?_
     replace H := jx0 H hK18
     replace h : Fit z (sepL (L)) _ := h.sel 6 [] (by kernel_rfl) (by kernel_rfl)
     replace H := ej1 H; subst H
     exact ⟨rfl, h⟩
   ·
    replace H := ifF c20 H
    refine offg (wgt hr (bne_iff_ne.mpr c20)) hr fun a hr => ?_
    refine offg (wgt hr (bne_iff_ne.mpr c20)) hr fun a hr => ?_
    refine offg (wgt hr (bne_iff_ne.mpr c20)) hr fun a hr => ?_
    refine offg (wgt hr (bne_iff_ne.mpr c20)) hr fun a hr => ?_
    refine offg (wgt hr (bne_iff_ne.mpr c20)) hr fun a hr => ?_
    refine offg (wgt hr (bne_iff_ne.mpr c20)) hr fun a hr => ?_
    refine offg (wgt hr (bne_iff_ne.mpr c20)) hr fun a hr => ?_
    refine opv (wn rfl) hr (vB true) (rp_t (b := (r8 != 0)) rfl (by kernel_rfl) (bne_iff_ne.mpr c20) (by kernel_rfl)) fun a hr => ?_
    refine o1 hr (vB true) fun a hr => ?_
    refine offg (wgt hr (c := true) rfl) hr fun a hr => ?_
    refine offg (wgt hr (c := true) rfl) hr fun a hr => ?_
    refine offg (wgt hr (c := true) rfl) hr fun a hr => ?_
    refine offg (wgt hr (c := true) rfl) hr fun a hr => ?_
    refine offg (wgt hr (c := true) rfl) hr fun a hr => ?_
    refine offg (wgt hr (c := true) rfl) hr fun a hr => ?_
    refine o1 hr (vB true) fun a hr => ?_
    refine ln ?_
    refine cond_tt hr (b := true) rfl ?_
    refine sr ?_
    refine o1 hr (vB false) fun a hr => ?_
    refine ln ?_
    refine wp_ret ?_
    refine then_ret ?_
    refine end_ret1 (v := vB false) rfl hr (by kernel_rfl) ?_
    replace H := jx0 H hK18
    replace h : Fit z (sepL (L)) _ := h.sel 6 [] (by kernel_rfl) (by kernel_rfl)
    replace H := ej1 H; subst H
    exact ⟨rfl, h⟩
  clear h hr a; rintro _ a w ⟨rfl, j, hr, h⟩
  replace H := jk0 hK18
  obtain ⟨o24, H, hK23⟩ := jd0 H
  refine cut_rule (β := Unit) (fun _ a w => .inl () = o24 ∧ ∃ j, Rep 179 (lk [(5, .slice car3 r1.length ccr4), (6, pA b17 0)] j) a ∧ Fit z (sepL (ro3 car3 ccr4 r1 :: ob86 b17 r7 car10 ccr11 car12 ccr13 car14 ccr15 car16 r7.Log.length :: ro3 car10 ccr11 r7.Holders :: rn31 car12 ccr13 r7.Reads :: ro2 car14 ccr15 r7.Marks :: ro96 car16 r7.Log.length r7.Log :: L)) w) ?_ ?_
  ·
   refine sr ?_
   obtain ⟨r25, e26, H⟩ := bd1 H
   refine oo [42, 43, 44] [.slice va1 p1.length vc1, vI ((p1.length : Nat) : Int), .slice car3 r1.length ccr4] hr fun a hr => ?_
   have hc := plunderlaw8_length_ok (va0 := car3) (vc0 := ccr4) (hv0 := (RdRow.of_row encZ_i64_ok h (fun h => h))) (H := e26) (h := h)
   refine cl (wn rfl) hr hc ?_; clear hc h
   rintro _ w ⟨rfl, h⟩; refine ⟨_, rfl, fun a hr => ?_⟩
   refine oo [46, 47] [vB (decide (((p1.length : Nat) : Int) ≥ r25)), vB (decide (((p1.length : Nat) : Int) ≥ r25))] hr fun a hr => ?_
   by_cases c27 : ((p1.length : Nat) : Int) ≥ r25
   ·
    replace H := ifT c27 H
    refine opv (wgt hr (decide_eq_true c27)) hr (pA b17 0) (by kernel_rfl) fun a hr => ?_
    refine ld (wgt hr (decide_eq_true c27)) hr (vB r7.Done) ((h.pick 1).cell 0 rfl) fun a hr => ?_
    refine opv (wgt hr (decide_eq_true c27)) hr (vB (!r7.Done)) (by kernel_rfl) fun a hr => ?_
    refine opv (wn rfl) hr (vB (!r7.Done)) (rp_t (b := (decide (((p1.length : Nat) : Int) ≥ r25))) rfl (by kernel_rfl) (decide_eq_true c27) (by kernel_rfl)) fun a hr => ?_
    refine ln ?_
    by_cases c28 : r7.Done = true
    ·
     replace H := ifT c28 H
     refine cond_ff hr (b := (!r7.Done)) (by rw [show r7.Done = true from (c28)]; rfl) ?_
     refine wp_skip ?_
     refine then_normal ?_
     replace hr := hr.fold2 [(5, .slice car3 r1.length ccr4), (6, pA b17 0)] (by kernel_rfl); obtain ⟨j, hr⟩ := hr
     exact ⟨(), sinj H, j, hr, h⟩
    ·
     replace H := ifF c28 H
     refine cond_tt hr (b := (!r7.Done)) (by rw [show r7.Done = false from (bF c28)]; rfl) ?_
     refine sr ?_
     refine o1 hr (vB false) fun a hr => ?_
     refine ln ?_
     refine wp_ret ?_
     refine then_ret ?_
     refine end_ret1 (v := vB false) rfl hr (by kernel_rfl) ?_
     replace H := jx0 H hK23
     replace h : Fit z (sepL (L)) _ := h.sel 6 [] (by kernel_rfl) (by kernel_rfl)
     replace H := ej1 H; subst H
     exact ⟨rfl, h⟩
   ·
    replace H := ifF c27 H
    refine offg (wgt hr (decide_eq_false c27)) hr fun a hr => ?_
    refine offg (wgt hr (decide_eq_false c27)) hr fun a hr => ?_
    refine offg (wgt hr (decide_eq_false c27)) hr fun a hr => ?_
    refine opv (wn rfl) hr (vB false) (rp_f (b := (decide (((p1.length : Nat) : Int) ≥ r25))) rfl (by kernel_rfl) (decide_eq_false c27) (by kernel_rfl)) fun a hr => ?_
    refine ln ?_
    refine cond_ff hr (b := false) rfl ?_
    refine wp_skip ?_
    refine then_normal ?_
    replace hr := hr.fold2 [(5, .slice car3 r1.length ccr4), (6, pA b17 0)] (by kernel_rfl); obtain ⟨j, hr⟩ := hr
    exact ⟨(), sinj H, j, hr, h⟩
  clear h hr a; rintro _ a w ⟨rfl, j, hr, h⟩
  replace H := jk0 hK23
  refine sr ?_
  refine o1 hr (vI 1) fun a hr => ?_
  refine ln ?_
  obtain ⟨o31, H, hK30⟩ := kd1 H
  refine cut_rule (β := Unit) (fun _ a w => ∃ g29 : Int, g29 = o31 ∧ ∃ j, Rep 179 (lk [(5, .slice car3 r1.length ccr4), (6, pA b17 0), (8, vI g29)] j) a ∧ Fit z (sepL (ro3 car3 ccr4 r1 :: ob86 b17 r7 car10 ccr11 car12 ccr13 car14 ccr15 car16 r7.Log.length :: ro3 car10 ccr11 r7.Holders :: rn31 car12 ccr13 r7.Reads :: ro2 car14 ccr15 r7.Marks :: ro96 car16 r7.Log.length r7.Log :: L)) w) ?_ ?_
  ·
   refine sr ?_
   refine o1 hr (vI 0) fun a hr => ?_
   refine ln ?_
   refine wp_block ?_
   replace hr := hr.fold2 [(5, .slice car3 r1.length ccr4), (6, pA b17 0), (8, vI 1), (9, vI 0)] (by kernel_rfl); obtain ⟨j, hr⟩ := hr
   refine loop_rule (β := Nat) id (fun m a w => ∃ g32 : Int, ∃ g33 : Int, (plunderlaw8_FramesSync_l1 K r1 m g32 g33) = some o31 ∧ ∃ j, Rep 179 (lk [(5, .slice car3 r1.length ccr4), (6, pA b17 0), (8, vI g32), (9, vI g33)] j) a ∧ Fit z (sepL (ro3 car3 ccr4 r1 :: ob86 b17 r7 car10 ccr11 car12 ccr13 car14 ccr15 car16 r7.Log.length :: ro3 car10 ccr11 r7.Holders :: rn31 car12 ccr13 r7.Reads :: ro2 car14 ccr15 r7.Marks :: ro96 car16 r7.Log.length r7.Log :: L)) w) K ⟨1, 0, H, j, hr, h⟩ ?_
   clear h hr a H; rintro k1 a w ⟨g32, g33, H, j, hr, h⟩
   cases k1 with
   | zero => exact absurd H (by simp [plunderlaw8_FramesSync_l1])
   | succ k1 =>
    rw [plunderlaw8_FramesSync_l1] at H
    refine wp_seq ?_
    refine sr ?_
    refine oo [52, 53, 54, 55] [vI g33, .slice car3 r1.length ccr4, vI ((r1.length : Nat) : Int), vB (decide (g33 < ((r1.length : Nat) : Int)))] hr fun a hr => ?_
    refine ln ?_
    by_cases c34 : g33 < ((r1.length : Nat) : Int)
    ·
     replace H := ifT c34 H
     refine cond_tt hr (decide_eq_true c34) ?_
     refine wp_skip ?_
     refine then_normal ?_
     refine wp_seq ?_
     refine wp_block ?_
     refine wp_region_lit ?_
     obtain ⟨c35, H⟩ := gd H
     refine oo [58, 59, 60] [vI g32, .slice car3 r1.length ccr4, vI g33] hr fun a hr => ?_
     refine opv (wn rfl) hr (pA (blk car3) (g33.toNat * 1)) (ri_row (k := .i64) (E := 3) rfl (by kernel_rfl) (by kernel_rfl) (by kernel_rfl) (by kernel_rfl) h c35) fun a hr => ?_
     refine ld (wn rfl) hr (vI (at_ r1 g33.toNat)) (h.row_cell encZ_i64_ok (f := 0) (at_ok c35) rfl) fun a hr => ?_
     refine oo [63, 8] [vI (wi (g32 + (at_ r1 g33.toNat))), vI (wi (g32 + (at_ r1 g33.toNat)))] hr fun a hr => ?_
     refine wpList_nil ?_
     refine blk_normal ?_
     refine then_normal ?_
     refine wp_region_lit ?_
     refine oo [56, 57, 9] [vI g33, vI (wi (g33 + 1)), vI (wi (g33 + 1))] hr fun a hr => ?_
     refine ln ?_
     replace hr := hr.fold2 [(5, .slice car3 r1.length ccr4), (6, pA b17 0), (8, vI (wi (g32 + (at_ r1 g33.toNat)))), (9, vI (wi (g33 + 1)))] (by kernel_rfl); obtain ⟨j, hr⟩ := hr
     exact ⟨_, ⟨(wi (g32 + (at_ r1 g33.toNat))), (wi (g33 + 1)), H, j, hr, h⟩, Nat.lt_succ_self _⟩
    ·
     replace H := ifF c34 H
     refine cond_ff hr (decide_eq_false c34) ?_
     refine wp_exit ?_
     refine then_exit ?_
     refine then_exit ?_
     refine blk_here ?_
     refine then_normal ?_
     replace hr := hr.fold2 [(5, .slice car3 r1.length ccr4), (6, pA b17 0), (8, vI g32)] (by kernel_rfl); obtain ⟨j, hr⟩ := hr
     exact ⟨(), g32, sinj H, j, hr, h⟩
  clear h hr a; rintro _ a w ⟨g29, rfl, j, hr, h⟩
  replace H := kk1 hK30
  obtain ⟨o37, H, hK36⟩ := jd0 H
  refine cut_rule (β := Unit) (fun _ a w => .inl () = o37 ∧ ∃ j, Rep 179 (lk [(5, .slice car3 r1.length ccr4), (6, pA b17 0), (8, vI g29)] j) a ∧ Fit z (sepL (ro3 car3 ccr4 r1 :: ob86 b17 r7 car10 ccr11 car12 ccr13 car14 ccr15 car16 r7.Log.length :: ro3 car10 ccr11 r7.Holders :: rn31 car12 ccr13 r7.Reads :: ro2 car14 ccr15 r7.Marks :: ro96 car16 r7.Log.length r7.Log :: L)) w) ?_ ?_
  ·
   refine sr ?_
   refine o1 hr (pA b17 4) fun a hr => ?_
   refine ld (wn rfl) hr (.slice car14 r7.Marks.length ccr15) ((h.pick 1).cell 4 rfl) fun a hr => ?_
   refine oo [66, 67, 68, 69] [vI ((r7.Marks.length : Nat) : Int), vI g29, vB (((r7.Marks.length : Nat) : Int) != g29), vB (((r7.Marks.length : Nat) : Int) != g29)] hr fun a hr => ?_
   by_cases c38 : ((r7.Marks.length : Nat) : Int) = g29
   ·
    replace H := ifT c38 H
    refine opv (wgt hr (bne_eq_false_iff_eq.mpr c38)) hr (pA b17 0) (by kernel_rfl) fun a hr => ?_
    refine ld (wgt hr (bne_eq_false_iff_eq.mpr c38)) hr (vB r7.Done) ((h.pick 1).cell 0 rfl) fun a hr => ?_
    refine opv (wgt hr (bne_eq_false_iff_eq.mpr c38)) hr (vB r7.Done) (by kernel_rfl) fun a hr => ?_
    by_cases c39 : r7.Done = true
    ·
     replace H := ifT c39 H
     refine opv (wgt hr (c39)) hr (pA b17 2) (by kernel_rfl) fun a hr => ?_
     refine ld (wgt hr (c39)) hr (.slice car10 r7.Holders.length ccr11) ((h.pick 1).cell 2 rfl) fun a hr => ?_
     refine opv (wgt hr (c39)) hr (vI ((r7.Holders.length : Nat) : Int)) (by kernel_rfl) fun a hr => ?_
     refine opv (wgt hr (c39)) hr (.slice car3 r1.length ccr4) (by kernel_rfl) fun a hr => ?_
     refine opv (wgt hr (c39)) hr (vI ((r1.length : Nat) : Int)) (by kernel_rfl) fun a hr => ?_
     refine opv (wgt hr (c39)) hr (vB (((r7.Holders.length : Nat) : Int) != ((r1.length : Nat) : Int))) (by kernel_rfl) fun a hr => ?_
     refine opv (wgt hr (bne_eq_false_iff_eq.mpr c38)) hr (vB (((r7.Holders.length : Nat) : Int) != ((r1.length : Nat) : Int))) (rp_t (b := r7.Done) rfl (by kernel_rfl) (c39) (by kernel_rfl)) fun a hr => ?_
     refine opv (wn rfl) hr (vB (((r7.Holders.length : Nat) : Int) != ((r1.length : Nat) : Int))) (rp_f (b := (((r7.Marks.length : Nat) : Int) != g29)) rfl (by kernel_rfl) (bne_eq_false_iff_eq.mpr c38) (by kernel_rfl)) fun a hr => ?_
     refine ln ?_
     by_cases c40 : ((r7.Holders.length : Nat) : Int) = ((r1.length : Nat) : Int)
     ·
      replace H := ifT c40 H
      refine cond_ff hr (bne_eq_false_iff_eq.mpr c40) ?_
      refine wp_skip ?_
      refine then_normal ?_
      replace hr := hr.fold2 [(5, .slice car3 r1.length ccr4), (6, pA b17 0), (8, vI g29)] (by kernel_rfl); obtain ⟨j, hr⟩ := hr
      exact ⟨(), sinj H, j, hr, h⟩
     ·
      replace H := ifF c40 H
      refine cond_tt hr (bne_iff_ne.mpr c40) ?_
      refine sr ?_
      refine o1 hr (vB false) fun a hr => ?_
      refine ln ?_
      refine wp_ret ?_
      refine then_ret ?_
      refine end_ret1 (v := vB false) rfl hr (by kernel_rfl) ?_
      replace H := jx0 H hK36
      replace h : Fit z (sepL (L)) _ := h.sel 6 [] (by kernel_rfl) (by kernel_rfl)
      replace H := ej1 H; subst H
      exact ⟨rfl, h⟩
    ·
     replace H := ifF c39 H
     refine offg (wgt hr (bF c39)) hr fun a hr => ?_
     refine offg (wgt hr (bF c39)) hr fun a hr => ?_
     refine offg (wgt hr (bF c39)) hr fun a hr => ?_
     refine offg (wgt hr (bF c39)) hr fun a hr => ?_
     refine offg (wgt hr (bF c39)) hr fun a hr => ?_
     refine offg (wgt hr (bF c39)) hr fun a hr => ?_
     refine opv (wgt hr (bne_eq_false_iff_eq.mpr c38)) hr (vB false) (rp_f (b := r7.Done) rfl (by kernel_rfl) (bF c39) (by kernel_rfl)) fun a hr => ?_
     refine opv (wn rfl) hr (vB false) (rp_f (b := (((r7.Marks.length : Nat) : Int) != g29)) rfl (by kernel_rfl) (bne_eq_false_iff_eq.mpr c38) (by kernel_rfl)) fun a hr => ?_
     refine ln ?_
     refine cond_ff hr (b := false) rfl ?_
     refine wp_skip ?_
     refine then_normal ?_
     replace hr := hr.fold2 [(5, .slice car3 r1.length ccr4), (6, pA b17 0), (8, vI g29)] (by kernel_rfl); obtain ⟨j, hr⟩ := hr
     exact ⟨(), sinj H, j, hr, h⟩
   ·
    replace H := ifF c38 H
    refine offg (wgt hr (bne_iff_ne.mpr c38)) hr fun a hr => ?_
    refine offg (wgt hr (bne_iff_ne.mpr c38)) hr fun a hr => ?_
    refine offg (wgt hr (bne_iff_ne.mpr c38)) hr fun a hr => ?_
    refine offg (wg_undef hr rfl rfl rfl (by kernel_rfl)) hr fun a hr => ?_
    refine offg (wg_undef hr rfl rfl rfl (by kernel_rfl)) hr fun a hr => ?_
    refine offg (wg_undef hr rfl rfl rfl (by kernel_rfl)) hr fun a hr => ?_
    refine offg (wg_undef hr rfl rfl rfl (by kernel_rfl)) hr fun a hr => ?_
    refine offg (wg_undef hr rfl rfl rfl (by kernel_rfl)) hr fun a hr => ?_
    refine offg (wg_undef hr rfl rfl rfl (by kernel_rfl)) hr fun a hr => ?_
    refine offg (wgt hr (bne_iff_ne.mpr c38)) hr fun a hr => ?_
    refine opv (wn rfl) hr (vB true) (rp_t (b := (((r7.Marks.length : Nat) : Int) != g29)) rfl (by kernel_rfl) (bne_iff_ne.mpr c38) (by kernel_rfl)) fun a hr => ?_
    refine ln ?_
    refine cond_tt hr (b := true) rfl ?_
    refine sr ?_
    refine o1 hr (vB false) fun a hr => ?_
    refine ln ?_
    refine wp_ret ?_
    refine then_ret ?_
    refine end_ret1 (v := vB false) rfl hr (by kernel_rfl) ?_
    replace H := jx0 H hK36
    replace h : Fit z (sepL (L)) _ := h.sel 6 [] (by kernel_rfl) (by kernel_rfl)
    replace H := ej1 H; subst H
    exact ⟨rfl, h⟩
  clear h hr a; rintro _ a w ⟨rfl, j, hr, h⟩
  replace H := jk0 hK36
  obtain ⟨o42, H, hK41⟩ := jd0 H
  refine cut_rule (β := Unit) (fun _ a w => .inl () = o42 ∧ ∃ j, Rep 179 (lk [(6, pA b17 0), (8, vI g29)] j) a ∧ Fit z (sepL (ob86 b17 r7 car10 ccr11 car12 ccr13 car14 ccr15 car16 r7.Log.length :: ro3 car10 ccr11 r7.Holders :: rn31 car12 ccr13 r7.Reads :: ro2 car14 ccr15 r7.Marks :: ro96 car16 r7.Log.length r7.Log :: L)) w) ?_ ?_
  ·
   refine sr ?_
   refine o1 hr (vI 0) fun a hr => ?_
   refine ln ?_
   refine wp_block ?_
   replace hr := hr.fold2 [(5, .slice car3 r1.length ccr4), (6, pA b17 0), (8, vI g29), (10, vI 0)] (by kernel_rfl); obtain ⟨j, hr⟩ := hr
   refine loop_rule (β := Nat) id (fun m a w => ∃ g43 : Int, (plunderlaw8_FramesSync_l2 K r1 r7 m g43) = some o42 ∧ ∃ j, Rep 179 (lk [(5, .slice car3 r1.length ccr4), (6, pA b17 0), (8, vI g29), (10, vI g43)] j) a ∧ Fit z (sepL (ro3 car3 ccr4 r1 :: ob86 b17 r7 car10 ccr11 car12 ccr13 car14 ccr15 car16 r7.Log.length :: ro3 car10 ccr11 r7.Holders :: rn31 car12 ccr13 r7.Reads :: ro2 car14 ccr15 r7.Marks :: ro96 car16 r7.Log.length r7.Log :: L)) w) K ⟨0, H, j, hr, h⟩ ?_
   clear h hr a H; rintro k2 a w ⟨g43, H, j, hr, h⟩
   cases k2 with
   | zero => exact absurd H (by simp [plunderlaw8_FramesSync_l2])
   | succ k2 =>
    rw [plunderlaw8_FramesSync_l2] at H
    refine wp_seq ?_
    refine sr ?_
    refine oo [81, 82] [vI g43, pA b17 3] hr fun a hr => ?_
    refine ld (wn rfl) hr (.slice car12 r7.Reads.length ccr13) ((h.pick 1).cell 3 rfl) fun a hr => ?_
    refine oo [84, 85] [vI ((r7.Reads.length : Nat) : Int), vB (decide (g43 < ((r7.Reads.length : Nat) : Int)))] hr fun a hr => ?_
    refine ln ?_
    by_cases c44 : g43 < ((r7.Reads.length : Nat) : Int)
    ·
     replace H := ifT c44 H
     refine cond_tt hr (decide_eq_true c44) ?_
     refine wp_skip ?_
     refine then_normal ?_
     obtain ⟨o49, H, hK48⟩ := jd3 H
     refine cut_rule (β := Unit) (fun _ a w => ∃ g45 : Bool, ∃ g46 : Bool, ∃ g47 : Bool, .inl (g45, g46, g47) = o49 ∧ ∃ j, Rep 179 (lk [(5, .slice car3 r1.length ccr4), (6, pA b17 0), (8, vI g29), (10, vI g43), (110, vB g45), (111, vB g46), (123, vB g47)] j) a ∧ Fit z (sepL (ro3 car3 ccr4 r1 :: ob86 b17 r7 car10 ccr11 car12 ccr13 car14 ccr15 car16 r7.Log.length :: ro3 car10 ccr11 r7.Holders :: rn31 car12 ccr13 r7.Reads :: ro2 car14 ccr15 r7.Marks :: ro96 car16 r7.Log.length r7.Log :: L)) w) ?_ ?_
     ·
      refine wp_block ?_
      obtain ⟨o52, H, hK51⟩ := kd1 H
      refine cut_rule (β := Unit) (fun _ a w => ∃ g50 : Bool, g50 = o52 ∧ ∃ j, Rep 179 (lk [(5, .slice car3 r1.length ccr4), (6, pA b17 0), (8, vI g29), (10, vI g43), (11, vB g50)] j) a ∧ Fit z (sepL (ro3 car3 ccr4 r1 :: ob86 b17 r7 car10 ccr11 car12 ccr13 car14 ccr15 car16 r7.Log.length :: ro3 car10 ccr11 r7.Holders :: rn31 car12 ccr13 r7.Reads :: ro2 car14 ccr15 r7.Marks :: ro96 car16 r7.Log.length r7.Log :: L)) w) ?_ ?_
      ·
       refine wp_region_lit ?_
       refine o1 hr (pA b17 0) fun a hr => ?_
       refine ld (wn rfl) hr (vB r7.Done) ((h.pick 1).cell 0 rfl) fun a hr => ?_
       refine o1 hr (vB r7.Done) fun a hr => ?_
       by_cases c53 : r7.Done = true
       ·
        replace H := ifT c53 H
        refine offg (wgt hr (c53)) hr fun a hr => ?_
        refine offg (wgt hr (c53)) hr fun a hr => ?_
        refine offg (wgt hr (c53)) hr fun a hr => ?_
        refine offg (wgt hr (c53)) hr fun a hr => ?_
        refine offg (wgt hr (c53)) hr fun a hr => ?_
        refine offg (wgt hr (c53)) hr fun a hr => ?_
        refine opv (wn rfl) hr (vB true) (rp_t (b := r7.Done) rfl (by kernel_rfl) (c53) (by kernel_rfl)) fun a hr => ?_
        refine o1 hr (vB true) fun a hr => ?_
        refine ln ?_
        replace hr := hr.fold2 [(5, .slice car3 r1.length ccr4), (6, pA b17 0), (8, vI g29), (10, vI g43), (11, vB true)] (by kernel_rfl); obtain ⟨j, hr⟩ := hr
        exact ⟨(), true, sinj H, j, hr, h⟩
       ·
        replace H := ifF c53 H
        refine opv (wgt hr (bF c53)) hr (vI g43) (by kernel_rfl) fun a hr => ?_
        refine opv (wgt hr (bF c53)) hr (vI (wi (g43 + 1))) (by kernel_rfl) fun a hr => ?_
        refine opv (wgt hr (bF c53)) hr (pA b17 3) (by kernel_rfl) fun a hr => ?_
        refine ld (wgt hr (bF c53)) hr (.slice car12 r7.Reads.length ccr13) ((h.pick 1).cell 3 rfl) fun a hr => ?_
        refine opv (wgt hr (bF c53)) hr (vI ((r7.Reads.length : Nat) : Int)) (by kernel_rfl) fun a hr => ?_
        refine opv (wgt hr (bF c53)) hr (vB (decide ((wi (g43 + 1)) < ((r7.Reads.length : Nat) : Int)))) (by kernel_rfl) fun a hr => ?_
        refine opv (wn rfl) hr (vB (decide ((wi (g43 + 1)) < ((r7.Reads.length : Nat) : Int)))) (rp_f (b := r7.Done) rfl (by kernel_rfl) (bF c53) (by kernel_rfl)) fun a hr => ?_
        refine o1 hr (vB (decide ((wi (g43 + 1)) < ((r7.Reads.length : Nat) : Int)))) fun a hr => ?_
        refine ln ?_
        replace hr := hr.fold2 [(5, .slice car3 r1.length ccr4), (6, pA b17 0), (8, vI g29), (10, vI g43), (11, vB (decide ((wi (g43 + 1)) < ((r7.Reads.length : Nat) : Int))))] (by kernel_rfl); obtain ⟨j, hr⟩ := hr
        exact ⟨(), (decide ((wi (g43 + 1)) < ((r7.Reads.length : Nat) : Int))), sinj H, j, hr, h⟩
      clear h hr a; rintro _ a w ⟨g50, rfl, j, hr, h⟩
      replace H := kk1 hK51
      obtain ⟨o56, H, hK55⟩ := jd1 H
      refine cut_rule (β := Unit) (fun _ a w => ∃ g54 : Bool, .inl g54 = o56 ∧ ∃ j, Rep 179 (lk [(5, .slice car3 r1.length ccr4), (6, pA b17 0), (8, vI g29), (10, vI g43), (110, vB g50), (111, vB g50), (123, vB g54)] j) a ∧ Fit z (sepL (ro3 car3 ccr4 r1 :: ob86 b17 r7 car10 ccr11 car12 ccr13 car14 ccr15 car16 r7.Log.length :: ro3 car10 ccr11 r7.Holders :: rn31 car12 ccr13 r7.Reads :: ro2 car14 ccr15 r7.Marks :: ro96 car16 r7.Log.length r7.Log :: L)) w) ?_ ?_
      ·
       refine wp_seq ?_
       obtain ⟨c57, H⟩ := gd H
       obtain ⟨cs61, h⟩ := (h.pick 3).rowN_take (at_ok c57)
       obtain ⟨ca58, cc59, e60, h⟩ := own_sl31_op (h.pick 1); subst e60
       replace h : Fit z (sepL (ro2 ca58 cc59 (at_ r7.Reads g43.toNat) :: rowH 31 1 own_sl31 (.slice car12 r7.Reads.length ccr13) r7.Reads g43.toNat [.slice ca58 (at_ r7.Reads g43.toNat).length cc59] :: ro3 car3 ccr4 r1 :: ob86 b17 r7 car10 ccr11 car12 ccr13 car14 ccr15 car16 r7.Log.length :: ro3 car10 ccr11 r7.Holders :: ro2 car14 ccr15 r7.Marks :: ro96 car16 r7.Log.length r7.Log :: L)) _ := h
       obtain ⟨c62, H⟩ := gd H
       by_cases c63 : (((at_ r7.Reads g43.toNat).length : Nat) : Int) > (at_ r1 g43.toNat)
       ·
        replace H := ifT c63 H
        refine reg_E (fun w => heldC w b17 3 ([.slice car12 r7.Reads.length ccr13]) ∧ heldC w (blk car12) (g43.toNat * 1) ([.slice ca58 (at_ r7.Reads g43.toNat).length cc59]) ∧ heldC w (blk car3) (g43.toNat * 1) ([vI (at_ r1 g43.toNat)]) ∧ True) [0, 3, 5, 8] h (by kernel_rfl) ?_; intro w h
        change wpAnyE _ _ _ _ _ _ 27 (Array.replicate 27 false) a w
        have hgo : ∀ w w', CellsGo w w' → (heldC w b17 3 ([.slice car12 r7.Reads.length ccr13]) ∧ heldC w (blk car12) (g43.toNat * 1) ([.slice ca58 (at_ r7.Reads g43.toNat).length cc59]) ∧ heldC w (blk car3) (g43.toNat * 1) ([vI (at_ r1 g43.toNat)]) ∧ True) → heldC w' b17 3 ([.slice car12 r7.Reads.length ccr13]) ∧ heldC w' (blk car12) (g43.toNat * 1) ([.slice ca58 (at_ r7.Reads g43.toNat).length cc59]) ∧ heldC w' (blk car3) (g43.toNat * 1) ([vI (at_ r1 g43.toNat)]) ∧ True := fun w w' g hD => ⟨heldC_go _ _ _ _ _ g hD.1, heldC_go _ _ _ _ _ g hD.2.1, heldC_go _ _ _ _ _ g hD.2.2.1, trivial⟩
        refine evDs hgo ⟨⟨(h.pick 3).cell 3 rfl, trivial⟩, ⟨(h.pick 1).rowH_cell (by decide) (f := 0) rfl, trivial⟩, ⟨(h.pick 2).row_cell encZ_i64_ok (f := 0) (at_ok c62) rfl, trivial⟩, trivial⟩ 26 0 rfl (wn rfl) hr (pA b17 3) fun a hr => ?_
        refine evs 25 2 rfl (wn rfl) hr (vI g43) fun a hr => ?_
        refine evs 24 6 rfl (wn rfl) hr (.slice car3 r1.length ccr4) fun a hr => ?_
        refine evs 23 7 rfl (wn rfl) hr (vI g43) fun a hr => ?_
        refine evD hgo ⟨⟨(h.pick 3).cell 3 rfl, trivial⟩, ⟨(h.pick 1).rowH_cell (by decide) (f := 0) rfl, trivial⟩, ⟨(h.pick 2).row_cell encZ_i64_ok (f := 0) (at_ok c62) rfl, trivial⟩, trivial⟩ 22 8 rfl (by kernel_rfl) (wn rfl) hr (pA (blk car3) (g43.toNat * 1)) (fun w => ri_row (k := .i64) (E := 3) rfl (by kernel_rfl) (by kernel_rfl) (by kernel_rfl) (by kernel_rfl) (h.pick 2) c62) fun a hr => ?_
        refine el [0, 3, 5, 8] (b := b17) (off := 3) (cs := [.slice car12 r7.Reads.length ccr13]) (fun _ hk => ⟨hk, fun w hD => hD.1⟩) 21 1 rfl (by kernel_rfl) (wn rfl) hr (.slice car12 r7.Reads.length ccr13) ⟨(h.pick 3).cell 3 rfl, trivial⟩ (fun w hc => rl rfl (by kernel_rfl) (by kernel_rfl) hc.1) fun a hr => ?_
        refine evD hgo ⟨⟨(h.pick 3).cell 3 rfl, trivial⟩, ⟨(h.pick 1).rowH_cell (by decide) (f := 0) rfl, trivial⟩, ⟨(h.pick 2).row_cell encZ_i64_ok (f := 0) (at_ok c62) rfl, trivial⟩, trivial⟩ 20 3 rfl (by kernel_rfl) (wn rfl) hr (pA (blk car12) (g43.toNat * 1)) (fun w => ri_rowH (k := .i64) (E := 31) rfl (by kernel_rfl) (by kernel_rfl) (by kernel_rfl) (by kernel_rfl) (h.pick 1) c57) fun a hr => ?_
        refine el [0, 3, 5, 8] (b := blk car12) (off := g43.toNat * 1) (cs := [.slice ca58 (at_ r7.Reads g43.toNat).length cc59]) (fun _ hk => ⟨hk, fun w hD => hD.2.1⟩) 19 4 rfl (by kernel_rfl) (wn rfl) hr (.slice ca58 (at_ r7.Reads g43.toNat).length cc59) ⟨(h.pick 1).rowH_cell (by decide) (f := 0) rfl, trivial⟩ (fun w hc => rl rfl (by kernel_rfl) (by kernel_rfl) hc.1) fun a hr => ?_
        refine evDs hgo ⟨⟨(h.pick 3).cell 3 rfl, trivial⟩, ⟨(h.pick 1).rowH_cell (by decide) (f := 0) rfl, trivial⟩, ⟨(h.pick 2).row_cell encZ_i64_ok (f := 0) (at_ok c62) rfl, trivial⟩, trivial⟩ 18 5 rfl (wn rfl) hr (vI (((at_ r7.Reads g43.toNat).length : Nat) : Int)) fun a hr => ?_
        refine el [0, 3, 5, 8] (b := blk car3) (off := g43.toNat * 1) (cs := [vI (at_ r1 g43.toNat)]) (fun _ hk => ⟨hk, fun w hD => hD.2.2.1⟩) 17 9 rfl (by kernel_rfl) (wn rfl) hr (vI (at_ r1 g43.toNat)) ⟨(h.pick 2).row_cell encZ_i64_ok (f := 0) (at_ok c62) rfl, trivial⟩ (fun w hc => rl rfl (by kernel_rfl) (by kernel_rfl) hc.1) fun a hr => ?_
        refine evs 16 10 rfl (wn rfl) hr (vB (decide ((((at_ r7.Reads g43.toNat).length : Nat) : Int) > (at_ r1 g43.toNat)))) fun a hr => ?_
        refine evs 15 11 rfl (wn rfl) hr (vB (decide ((((at_ r7.Reads g43.toNat).length : Nat) : Int) > (at_ r1 g43.toNat)))) fun a hr => ?_
        refine eos 14 12 rfl (wgt hr (decide_eq_true c63)) hr fun a hr => ?_
        refine eos 13 13 rfl (wgt hr (decide_eq_true c63)) hr fun a hr => ?_
        refine eos 12 14 rfl (wg_undef hr rfl rfl rfl (by kernel_rfl)) hr fun a hr => ?_
        refine eos 11 16 rfl (wg_undef hr rfl rfl rfl (by kernel_rfl)) hr fun a hr => ?_
        refine eos 10 20 rfl (wg_undef hr rfl rfl rfl (by kernel_rfl)) hr fun a hr => ?_
        refine eos 9 21 rfl (wg_undef hr rfl rfl rfl (by kernel_rfl)) hr fun a hr => ?_
        refine eos 8 22 rfl (wg_undef hr rfl rfl rfl (by kernel_rfl)) hr fun a hr => ?_
        refine eos 7 15 rfl (wg_undef hr rfl rfl rfl (by kernel_rfl)) hr fun a hr => ?_
        refine eos 6 17 rfl (wg_undef hr rfl rfl rfl (by kernel_rfl)) hr fun a hr => ?_
        refine eos 5 18 rfl (wg_undef hr rfl rfl rfl (by kernel_rfl)) hr fun a hr => ?_
        refine eos 4 19 rfl (wg_undef hr rfl rfl rfl (by kernel_rfl)) hr fun a hr => ?_
        refine eos 3 23 rfl (wg_undef hr rfl rfl rfl (by kernel_rfl)) hr fun a hr => ?_
        refine eos 2 24 rfl (wg_undef hr rfl rfl rfl (by kernel_rfl)) hr fun a hr => ?_
        refine eos 1 25 rfl (wgt hr (decide_eq_true c63)) hr fun a hr => ?_
        refine ev 0 26 rfl (by kernel_rfl) (wn rfl) hr (vB true) (fun w => rp_t (b := (decide ((((at_ r7.Reads g43.toNat).length : Nat) : Int) > (at_ r1 g43.toNat)))) rfl (by kernel_rfl) (decide_eq_true c63) (by kernel_rfl)) fun a hr => ?_
        refine e_end (by kernel_rfl) ?_
        refine then_normal ?_
        refine cond_tt hr (b := true) rfl ?_
        refine sr ?_
        refine o1 hr (vB false) fun a hr => ?_
        refine ln ?_
        refine wp_ret ?_
        refine then_ret ?_
        refine blk_ret ?_
        refine then_ret ?_
        refine then_ret ?_
        refine blk_ret ?_
        refine then_ret ?_
        refine end_ret1 (v := vB false) rfl hr (by kernel_rfl) ?_
        replace h := own_sl31_sh (x := (at_ r7.Reads g43.toNat)) h
        replace h : Fit z (sepL (rn31 car12 ccr13 r7.Reads :: ro3 car3 ccr4 r1 :: ob86 b17 r7 car10 ccr11 car12 ccr13 car14 ccr15 car16 r7.Log.length :: ro3 car10 ccr11 r7.Holders :: ro2 car14 ccr15 r7.Marks :: ro96 car16 r7.Log.length r7.Log :: L)) _ := Fit.rowH_same (h.pick 1)
        replace H := jx1 H hK55
        replace H := jx3 H hK48
        replace H := jx0 H hK41
        replace h : Fit z (sepL (L)) _ := h.sel 6 [] (by kernel_rfl) (by kernel_rfl)
        replace H := ej1 H; subst H
        exact ⟨rfl, h⟩
       ·
        replace H := ifF c63 H
        by_cases c64 : g50 = true
        ·
         replace H := ifT c64 H
         refine reg_E (fun w => heldC w b17 3 ([.slice car12 r7.Reads.length ccr13]) ∧ heldC w (blk car12) (g43.toNat * 1) ([.slice ca58 (at_ r7.Reads g43.toNat).length cc59]) ∧ heldC w (blk car3) (g43.toNat * 1) ([vI (at_ r1 g43.toNat)]) ∧ heldC w b17 3 ([.slice car12 r7.Reads.length ccr13]) ∧ heldC w (blk car12) (g43.toNat * 1) ([.slice ca58 (at_ r7.Reads g43.toNat).length cc59]) ∧ heldC w (blk car3) (g43.toNat * 1) ([vI (at_ r1 g43.toNat)]) ∧ True) [0, 3, 5, 8, 10, 14, 17, 19, 22] h (by kernel_rfl) ?_; intro w h
         change wpAnyE _ _ _ _ _ _ 27 (Array.replicate 27 false) a w
         have hgo : ∀ w w', CellsGo w w' → (heldC w b17 3 ([.slice car12 r7.Reads.length ccr13]) ∧ heldC w (blk car12) (g43.toNat * 1) ([.slice ca58 (at_ r7.Reads g43.toNat).length cc59]) ∧ heldC w (blk car3) (g43.toNat * 1) ([vI (at_ r1 g43.toNat)]) ∧ heldC w b17 3 ([.slice car12 r7.Reads.length ccr13]) ∧ heldC w (blk car12) (g43.toNat * 1) ([.slice ca58 (at_ r7.Reads g43.toNat).length cc59]) ∧ heldC w (blk car3) (g43.toNat * 1) ([vI (at_ r1 g43.toNat)]) ∧ True) → heldC w' b17 3 ([.slice car12 r7.Reads.length ccr13]) ∧ heldC w' (blk car12) (g43.toNat * 1) ([.slice ca58 (at_ r7.Reads g43.toNat).length cc59]) ∧ heldC w' (blk car3) (g43.toNat * 1) ([vI (at_ r1 g43.toNat)]) ∧ heldC w' b17 3 ([.slice car12 r7.Reads.length ccr13]) ∧ heldC w' (blk car12) (g43.toNat * 1) ([.slice ca58 (at_ r7.Reads g43.toNat).length cc59]) ∧ heldC w' (blk car3) (g43.toNat * 1) ([vI (at_ r1 g43.toNat)]) ∧ True := fun w w' g hD => ⟨heldC_go _ _ _ _ _ g hD.1, heldC_go _ _ _ _ _ g hD.2.1, heldC_go _ _ _ _ _ g hD.2.2.1, heldC_go _ _ _ _ _ g hD.2.2.2.1, heldC_go _ _ _ _ _ g hD.2.2.2.2.1, heldC_go _ _ _ _ _ g hD.2.2.2.2.2.1, trivial⟩
         refine evDs hgo ⟨⟨(h.pick 3).cell 3 rfl, trivial⟩, ⟨(h.pick 1).rowH_cell (by decide) (f := 0) rfl, trivial⟩, ⟨(h.pick 2).row_cell encZ_i64_ok (f := 0) (at_ok c62) rfl, trivial⟩, ⟨(h.pick 3).cell 3 rfl, trivial⟩, ⟨(h.pick 1).rowH_cell (by decide) (f := 0) rfl, trivial⟩, ⟨(h.pick 2).row_cell encZ_i64_ok (f := 0) (at_ok c62) rfl, trivial⟩, trivial⟩ 26 0 rfl (wn rfl) hr (pA b17 3) fun a hr => ?_
         refine evs 25 2 rfl (wn rfl) hr (vI g43) fun a hr => ?_
         refine evs 24 6 rfl (wn rfl) hr (.slice car3 r1.length ccr4) fun a hr => ?_
         refine evs 23 7 rfl (wn rfl) hr (vI g43) fun a hr => ?_
         refine evD hgo ⟨⟨(h.pick 3).cell 3 rfl, trivial⟩, ⟨(h.pick 1).rowH_cell (by decide) (f := 0) rfl, trivial⟩, ⟨(h.pick 2).row_cell encZ_i64_ok (f := 0) (at_ok c62) rfl, trivial⟩, ⟨(h.pick 3).cell 3 rfl, trivial⟩, ⟨(h.pick 1).rowH_cell (by decide) (f := 0) rfl, trivial⟩, ⟨(h.pick 2).row_cell encZ_i64_ok (f := 0) (at_ok c62) rfl, trivial⟩, trivial⟩ 22 8 rfl (by kernel_rfl) (wn rfl) hr (pA (blk car3) (g43.toNat * 1)) (fun w => ri_row (k := .i64) (E := 3) rfl (by kernel_rfl) (by kernel_rfl) (by kernel_rfl) (by kernel_rfl) (h.pick 2) c62) fun a hr => ?_
         refine el [0, 3, 5, 8, 10, 14, 17, 19, 22] (b := b17) (off := 3) (cs := [.slice car12 r7.Reads.length ccr13]) (fun _ hk => ⟨hk, fun w hD => hD.1⟩) 21 1 rfl (by kernel_rfl) (wn rfl) hr (.slice car12 r7.Reads.length ccr13) ⟨(h.pick 3).cell 3 rfl, trivial⟩ (fun w hc => rl rfl (by kernel_rfl) (by kernel_rfl) hc.1) fun a hr => ?_
         refine evD hgo ⟨⟨(h.pick 3).cell 3 rfl, trivial⟩, ⟨(h.pick 1).rowH_cell (by decide) (f := 0) rfl, trivial⟩, ⟨(h.pick 2).row_cell encZ_i64_ok (f := 0) (at_ok c62) rfl, trivial⟩, ⟨(h.pick 3).cell 3 rfl, trivial⟩, ⟨(h.pick 1).rowH_cell (by decide) (f := 0) rfl, trivial⟩, ⟨(h.pick 2).row_cell encZ_i64_ok (f := 0) (at_ok c62) rfl, trivial⟩, trivial⟩ 20 3 rfl (by kernel_rfl) (wn rfl) hr (pA (blk car12) (g43.toNat * 1)) (fun w => ri_rowH (k := .i64) (E := 31) rfl (by kernel_rfl) (by kernel_rfl) (by kernel_rfl) (by kernel_rfl) (h.pick 1) c57) fun a hr => ?_
         refine el [0, 3, 5, 8, 10, 14, 17, 19, 22] (b := blk car12) (off := g43.toNat * 1) (cs := [.slice ca58 (at_ r7.Reads g43.toNat).length cc59]) (fun _ hk => ⟨hk, fun w hD => hD.2.1⟩) 19 4 rfl (by kernel_rfl) (wn rfl) hr (.slice ca58 (at_ r7.Reads g43.toNat).length cc59) ⟨(h.pick 1).rowH_cell (by decide) (f := 0) rfl, trivial⟩ (fun w hc => rl rfl (by kernel_rfl) (by kernel_rfl) hc.1) fun a hr => ?_
         refine evDs hgo ⟨⟨(h.pick 3).cell 3 rfl, trivial⟩, ⟨(h.pick 1).rowH_cell (by decide) (f := 0) rfl, trivial⟩, ⟨(h.pick 2).row_cell encZ_i64_ok (f := 0) (at_ok c62) rfl, trivial⟩, ⟨(h.pick 3).cell 3 rfl, trivial⟩, ⟨(h.pick 1).rowH_cell (by decide) (f := 0) rfl, trivial⟩, ⟨(h.pick 2).row_cell encZ_i64_ok (f := 0) (at_ok c62) rfl, trivial⟩, trivial⟩ 18 5 rfl (wn rfl) hr (vI (((at_ r7.Reads g43.toNat).length : Nat) : Int)) fun a hr => ?_
         refine el [0, 3, 5, 8, 10, 14, 17, 19, 22] (b := blk car3) (off := g43.toNat * 1) (cs := [vI (at_ r1 g43.toNat)]) (fun _ hk => ⟨hk, fun w hD => hD.2.2.1⟩) 17 9 rfl (by kernel_rfl) (wn rfl) hr (vI (at_ r1 g43.toNat)) ⟨(h.pick 2).row_cell encZ_i64_ok (f := 0) (at_ok c62) rfl, trivial⟩ (fun w hc => rl rfl (by kernel_rfl) (by kernel_rfl) hc.1) fun a hr => ?_
         refine evDs hgo ⟨⟨(h.pick 3).cell 3 rfl, trivial⟩, ⟨(h.pick 1).rowH_cell (by decide) (f := 0) rfl, trivial⟩, ⟨(h.pick 2).row_cell encZ_i64_ok (f := 0) (at_ok c62) rfl, trivial⟩, ⟨(h.pick 3).cell 3 rfl, trivial⟩, ⟨(h.pick 1).rowH_cell (by decide) (f := 0) rfl, trivial⟩, ⟨(h.pick 2).row_cell encZ_i64_ok (f := 0) (at_ok c62) rfl, trivial⟩, trivial⟩ 16 10 rfl (wn rfl) hr (vB (decide ((((at_ r7.Reads g43.toNat).length : Nat) : Int) > (at_ r1 g43.toNat)))) fun a hr => ?_
         refine evs 15 11 rfl (wn rfl) hr (vB (decide ((((at_ r7.Reads g43.toNat).length : Nat) : Int) > (at_ r1 g43.toNat)))) fun a hr => ?_
         refine evs 14 12 rfl (wgt hr (decide_eq_false c63)) hr (vB g50) fun a hr => ?_
         refine evs 13 13 rfl (wgt hr (decide_eq_false c63)) hr (vB g50) fun a hr => ?_
         refine evDs hgo ⟨⟨(h.pick 3).cell 3 rfl, trivial⟩, ⟨(h.pick 1).rowH_cell (by decide) (f := 0) rfl, trivial⟩, ⟨(h.pick 2).row_cell encZ_i64_ok (f := 0) (at_ok c62) rfl, trivial⟩, ⟨(h.pick 3).cell 3 rfl, trivial⟩, ⟨(h.pick 1).rowH_cell (by decide) (f := 0) rfl, trivial⟩, ⟨(h.pick 2).row_cell encZ_i64_ok (f := 0) (at_ok c62) rfl, trivial⟩, trivial⟩ 12 14 rfl (wgt hr (c64)) hr (pA b17 3) fun a hr => ?_
         refine evs 11 16 rfl (wgt hr (c64)) hr (vI g43) fun a hr => ?_
         refine evs 10 20 rfl (wgt hr (c64)) hr (.slice car3 r1.length ccr4) fun a hr => ?_
         refine evs 9 21 rfl (wgt hr (c64)) hr (vI g43) fun a hr => ?_
         refine evD hgo ⟨⟨(h.pick 3).cell 3 rfl, trivial⟩, ⟨(h.pick 1).rowH_cell (by decide) (f := 0) rfl, trivial⟩, ⟨(h.pick 2).row_cell encZ_i64_ok (f := 0) (at_ok c62) rfl, trivial⟩, ⟨(h.pick 3).cell 3 rfl, trivial⟩, ⟨(h.pick 1).rowH_cell (by decide) (f := 0) rfl, trivial⟩, ⟨(h.pick 2).row_cell encZ_i64_ok (f := 0) (at_ok c62) rfl, trivial⟩, trivial⟩ 8 22 rfl (by kernel_rfl) (wgt hr (c64)) hr (pA (blk car3) (g43.toNat * 1)) (fun w => ri_row (k := .i64) (E := 3) rfl (by kernel_rfl) (by kernel_rfl) (by kernel_rfl) (by kernel_rfl) (h.pick 2) c62) fun a hr => ?_
         refine el [0, 3, 5, 8, 10, 14, 17, 19, 22] (b := b17) (off := 3) (cs := [.slice car12 r7.Reads.length ccr13]) (fun _ hk => ⟨hk, fun w hD => hD.2.2.2.1⟩) 7 15 rfl (by kernel_rfl) (wgt hr (c64)) hr (.slice car12 r7.Reads.length ccr13) ⟨(h.pick 3).cell 3 rfl, trivial⟩ (fun w hc => rl rfl (by kernel_rfl) (by kernel_rfl) hc.1) fun a hr => ?_
         refine evD hgo ⟨⟨(h.pick 3).cell 3 rfl, trivial⟩, ⟨(h.pick 1).rowH_cell (by decide) (f := 0) rfl, trivial⟩, ⟨(h.pick 2).row_cell encZ_i64_ok (f := 0) (at_ok c62) rfl, trivial⟩, ⟨(h.pick 3).cell 3 rfl, trivial⟩, ⟨(h.pick 1).rowH_cell (by decide) (f := 0) rfl, trivial⟩, ⟨(h.pick 2).row_cell encZ_i64_ok (f := 0) (at_ok c62) rfl, trivial⟩, trivial⟩ 6 17 rfl (by kernel_rfl) (wgt hr (c64)) hr (pA (blk car12) (g43.toNat * 1)) (fun w => ri_rowH (k := .i64) (E := 31) rfl (by kernel_rfl) (by kernel_rfl) (by kernel_rfl) (by kernel_rfl) (h.pick 1) c57) fun a hr => ?_
         refine el [0, 3, 5, 8, 10, 14, 17, 19, 22] (b := blk car12) (off := g43.toNat * 1) (cs := [.slice ca58 (at_ r7.Reads g43.toNat).length cc59]) (fun _ hk => ⟨hk, fun w hD => hD.2.2.2.2.1⟩) 5 18 rfl (by kernel_rfl) (wgt hr (c64)) hr (.slice ca58 (at_ r7.Reads g43.toNat).length cc59) ⟨(h.pick 1).rowH_cell (by decide) (f := 0) rfl, trivial⟩ (fun w hc => rl rfl (by kernel_rfl) (by kernel_rfl) hc.1) fun a hr => ?_
         refine evDs hgo ⟨⟨(h.pick 3).cell 3 rfl, trivial⟩, ⟨(h.pick 1).rowH_cell (by decide) (f := 0) rfl, trivial⟩, ⟨(h.pick 2).row_cell encZ_i64_ok (f := 0) (at_ok c62) rfl, trivial⟩, ⟨(h.pick 3).cell 3 rfl, trivial⟩, ⟨(h.pick 1).rowH_cell (by decide) (f := 0) rfl, trivial⟩, ⟨(h.pick 2).row_cell encZ_i64_ok (f := 0) (at_ok c62) rfl, trivial⟩, trivial⟩ 4 19 rfl (wgt hr (c64)) hr (vI (((at_ r7.Reads g43.toNat).length : Nat) : Int)) fun a hr => ?_
         refine el [0, 3, 5, 8, 10, 14, 17, 19, 22] (b := blk car3) (off := g43.toNat * 1) (cs := [vI (at_ r1 g43.toNat)]) (fun _ hk => ⟨hk, fun w hD => hD.2.2.2.2.2.1⟩) 3 23 rfl (by kernel_rfl) (wgt hr (c64)) hr (vI (at_ r1 g43.toNat)) ⟨(h.pick 2).row_cell encZ_i64_ok (f := 0) (at_ok c62) rfl, trivial⟩ (fun w hc => rl rfl (by kernel_rfl) (by kernel_rfl) hc.1) fun a hr => ?_
         refine evs 2 24 rfl (wgt hr (c64)) hr (vB ((((at_ r7.Reads g43.toNat).length : Nat) : Int) != (at_ r1 g43.toNat))) fun a hr => ?_
         refine ev 1 25 rfl (by kernel_rfl) (wgt hr (decide_eq_false c63)) hr (vB ((((at_ r7.Reads g43.toNat).length : Nat) : Int) != (at_ r1 g43.toNat))) (fun w => rp_t (b := g50) rfl (by kernel_rfl) (c64) (by kernel_rfl)) fun a hr => ?_
         refine ev 0 26 rfl (by kernel_rfl) (wn rfl) hr (vB ((((at_ r7.Reads g43.toNat).length : Nat) : Int) != (at_ r1 g43.toNat))) (fun w => rp_f (b := (decide ((((at_ r7.Reads g43.toNat).length : Nat) : Int) > (at_ r1 g43.toNat)))) rfl (by kernel_rfl) (decide_eq_false c63) (by kernel_rfl)) fun a hr => ?_
         refine e_end (by kernel_rfl) ?_
         refine then_normal ?_
         by_cases c65 : (((at_ r7.Reads g43.toNat).length : Nat) : Int) = (at_ r1 g43.toNat)
         ·
          replace H := ifT c65 H
          refine cond_ff hr (bne_eq_false_iff_eq.mpr c65) ?_
          refine wp_skip ?_
          refine then_normal ?_
          replace h := own_sl31_sh (x := (at_ r7.Reads g43.toNat)) h
          replace h : Fit z (sepL (rn31 car12 ccr13 r7.Reads :: ro3 car3 ccr4 r1 :: ob86 b17 r7 car10 ccr11 car12 ccr13 car14 ccr15 car16 r7.Log.length :: ro3 car10 ccr11 r7.Holders :: ro2 car14 ccr15 r7.Marks :: ro96 car16 r7.Log.length r7.Log :: L)) _ := Fit.rowH_same (h.pick 1)
          replace hr := hr.fold2 [(5, .slice car3 r1.length ccr4), (6, pA b17 0), (8, vI g29), (10, vI g43), (110, vB g50), (111, vB g50), (123, vB ((((at_ r7.Reads g43.toNat).length : Nat) : Int) != (at_ r1 g43.toNat)))] (by kernel_rfl); obtain ⟨j, hr⟩ := hr
          replace h : Fit z (sepL (ro3 car3 ccr4 r1 :: ob86 b17 r7 car10 ccr11 car12 ccr13 car14 ccr15 car16 r7.Log.length :: ro3 car10 ccr11 r7.Holders :: rn31 car12 ccr13 r7.Reads :: ro2 car14 ccr15 r7.Marks :: ro96 car16 r7.Log.length r7.Log :: L)) _ := h.sel 6 [1, 2, 3, 0, 4, 5] (by kernel_rfl) (by kernel_rfl)
          exact ⟨(), ((((at_ r7.Reads g43.toNat).length : Nat) : Int) != (at_ r1 g43.toNat)), sinj H, j, hr, h⟩
         ·
          replace H := ifF c65 H
          refine cond_tt hr (bne_iff_ne.mpr c65) ?_
          refine sr ?_
          refine o1 hr (vB false) fun a hr => ?_
          refine ln ?_
          refine wp_ret ?_
          refine then_ret ?_
          refine blk_ret ?_
          refine then_ret ?_
          refine then_ret ?_
          refine blk_ret ?_
          refine then_ret ?_
          refine end_ret1 (v := vB false) rfl hr (by kernel_rfl) ?_
          replace h := own_sl31_sh (x := (at_ r7.Reads g43.toNat)) h
          replace h : Fit z (sepL (rn31 car12 ccr13 r7.Reads :: ro3 car3 ccr4 r1 :: ob86 b17 r7 car10 ccr11 car12 ccr13 car14 ccr15 car16 r7.Log.length :: ro3 car10 ccr11 r7.Holders :: ro2 car14 ccr15 r7.Marks :: ro96 car16 r7.Log.length r7.Log :: L)) _ := Fit.rowH_same (h.pick 1)
          replace H := jx1 H hK55
          replace H := jx3 H hK48
          replace H := jx0 H hK41
          replace h : Fit z (sepL (L)) _ := h.sel 6 [] (by kernel_rfl) (by kernel_rfl)
          replace H := ej1 H; subst H
          exact ⟨rfl, h⟩
        ·
         replace H := ifF c64 H
         refine reg_E (fun w => heldC w b17 3 ([.slice car12 r7.Reads.length ccr13]) ∧ heldC w (blk car12) (g43.toNat * 1) ([.slice ca58 (at_ r7.Reads g43.toNat).length cc59]) ∧ heldC w (blk car3) (g43.toNat * 1) ([vI (at_ r1 g43.toNat)]) ∧ True) [0, 3, 5, 8] h (by kernel_rfl) ?_; intro w h
         change wpAnyE _ _ _ _ _ _ 27 (Array.replicate 27 false) a w
         have hgo : ∀ w w', CellsGo w w' → (heldC w b17 3 ([.slice car12 r7.Reads.length ccr13]) ∧ heldC w (blk car12) (g43.toNat * 1) ([.slice ca58 (at_ r7.Reads g43.toNat).length cc59]) ∧ heldC w (blk car3) (g43.toNat * 1) ([vI (at_ r1 g43.toNat)]) ∧ True) → heldC w' b17 3 ([.slice car12 r7.Reads.length ccr13]) ∧ heldC w' (blk car12) (g43.toNat * 1) ([.slice ca58 (at_ r7.Reads g43.toNat).length cc59]) ∧ heldC w' (blk car3) (g43.toNat * 1) ([vI (at_ r1 g43.toNat)]) ∧ True := fun w w' g hD => ⟨heldC_go _ _ _ _ _ g hD.1, heldC_go _ _ _ _ _ g hD.2.1, heldC_go _ _ _ _ _ g hD.2.2.1, trivial⟩
         refine evDs hgo ⟨⟨(h.pick 3).cell 3 rfl, trivial⟩, ⟨(h.pick 1).rowH_cell (by decide) (f := 0) rfl, trivial⟩, ⟨(h.pick 2).row_cell encZ_i64_ok (f := 0) (at_ok c62) rfl, trivial⟩, trivial⟩ 26 0 rfl (wn rfl) hr (pA b17 3) fun a hr => ?_
         refine evs 25 2 rfl (wn rfl) hr (vI g43) fun a hr => ?_
         refine evs 24 6 rfl (wn rfl) hr (.slice car3 r1.length ccr4) fun a hr => ?_
         refine evs 23 7 rfl (wn rfl) hr (vI g43) fun a hr => ?_
         refine evD hgo ⟨⟨(h.pick 3).cell 3 rfl, trivial⟩, ⟨(h.pick 1).rowH_cell (by decide) (f := 0) rfl, trivial⟩, ⟨(h.pick 2).row_cell encZ_i64_ok (f := 0) (at_ok c62) rfl, trivial⟩, trivial⟩ 22 8 rfl (by kernel_rfl) (wn rfl) hr (pA (blk car3) (g43.toNat * 1)) (fun w => ri_row (k := .i64) (E := 3) rfl (by kernel_rfl) (by kernel_rfl) (by kernel_rfl) (by kernel_rfl) (h.pick 2) c62) fun a hr => ?_
         refine el [0, 3, 5, 8] (b := b17) (off := 3) (cs := [.slice car12 r7.Reads.length ccr13]) (fun _ hk => ⟨hk, fun w hD => hD.1⟩) 21 1 rfl (by kernel_rfl) (wn rfl) hr (.slice car12 r7.Reads.length ccr13) ⟨(h.pick 3).cell 3 rfl, trivial⟩ (fun w hc => rl rfl (by kernel_rfl) (by kernel_rfl) hc.1) fun a hr => ?_
         refine evD hgo ⟨⟨(h.pick 3).cell 3 rfl, trivial⟩, ⟨(h.pick 1).rowH_cell (by decide) (f := 0) rfl, trivial⟩, ⟨(h.pick 2).row_cell encZ_i64_ok (f := 0) (at_ok c62) rfl, trivial⟩, trivial⟩ 20 3 rfl (by kernel_rfl) (wn rfl) hr (pA (blk car12) (g43.toNat * 1)) (fun w => ri_rowH (k := .i64) (E := 31) rfl (by kernel_rfl) (by kernel_rfl) (by kernel_rfl) (by kernel_rfl) (h.pick 1) c57) fun a hr => ?_
         refine el [0, 3, 5, 8] (b := blk car12) (off := g43.toNat * 1) (cs := [.slice ca58 (at_ r7.Reads g43.toNat).length cc59]) (fun _ hk => ⟨hk, fun w hD => hD.2.1⟩) 19 4 rfl (by kernel_rfl) (wn rfl) hr (.slice ca58 (at_ r7.Reads g43.toNat).length cc59) ⟨(h.pick 1).rowH_cell (by decide) (f := 0) rfl, trivial⟩ (fun w hc => rl rfl (by kernel_rfl) (by kernel_rfl) hc.1) fun a hr => ?_
         refine evDs hgo ⟨⟨(h.pick 3).cell 3 rfl, trivial⟩, ⟨(h.pick 1).rowH_cell (by decide) (f := 0) rfl, trivial⟩, ⟨(h.pick 2).row_cell encZ_i64_ok (f := 0) (at_ok c62) rfl, trivial⟩, trivial⟩ 18 5 rfl (wn rfl) hr (vI (((at_ r7.Reads g43.toNat).length : Nat) : Int)) fun a hr => ?_
         refine el [0, 3, 5, 8] (b := blk car3) (off := g43.toNat * 1) (cs := [vI (at_ r1 g43.toNat)]) (fun _ hk => ⟨hk, fun w hD => hD.2.2.1⟩) 17 9 rfl (by kernel_rfl) (wn rfl) hr (vI (at_ r1 g43.toNat)) ⟨(h.pick 2).row_cell encZ_i64_ok (f := 0) (at_ok c62) rfl, trivial⟩ (fun w hc => rl rfl (by kernel_rfl) (by kernel_rfl) hc.1) fun a hr => ?_
         refine evs 16 10 rfl (wn rfl) hr (vB (decide ((((at_ r7.Reads g43.toNat).length : Nat) : Int) > (at_ r1 g43.toNat)))) fun a hr => ?_
         refine evs 15 11 rfl (wn rfl) hr (vB (decide ((((at_ r7.Reads g43.toNat).length : Nat) : Int) > (at_ r1 g43.toNat)))) fun a hr => ?_
         refine evs 14 12 rfl (wgt hr (decide_eq_false c63)) hr (vB g50) fun a hr => ?_
         refine evs 13 13 rfl (wgt hr (decide_eq_false c63)) hr (vB g50) fun a hr => ?_
         refine eos 12 14 rfl (wgt hr (bF c64)) hr fun a hr => ?_
         refine eos 11 16 rfl (wgt hr (bF c64)) hr fun a hr => ?_
         refine eos 10 20 rfl (wgt hr (bF c64)) hr fun a hr => ?_
         refine eos 9 21 rfl (wgt hr (bF c64)) hr fun a hr => ?_
         refine eos 8 22 rfl (wgt hr (bF c64)) hr fun a hr => ?_
         refine eos 7 15 rfl (wgt hr (bF c64)) hr fun a hr => ?_
         refine eos 6 17 rfl (wgt hr (bF c64)) hr fun a hr => ?_
         refine eos 5 18 rfl (wgt hr (bF c64)) hr fun a hr => ?_
         refine eos 4 19 rfl (wgt hr (bF c64)) hr fun a hr => ?_
         refine eos 3 23 rfl (wgt hr (bF c64)) hr fun a hr => ?_
         refine eos 2 24 rfl (wgt hr (bF c64)) hr fun a hr => ?_
         refine ev 1 25 rfl (by kernel_rfl) (wgt hr (decide_eq_false c63)) hr (vB false) (fun w => rp_f (b := g50) rfl (by kernel_rfl) (bF c64) (by kernel_rfl)) fun a hr => ?_
         refine ev 0 26 rfl (by kernel_rfl) (wn rfl) hr (vB false) (fun w => rp_f (b := (decide ((((at_ r7.Reads g43.toNat).length : Nat) : Int) > (at_ r1 g43.toNat)))) rfl (by kernel_rfl) (decide_eq_false c63) (by kernel_rfl)) fun a hr => ?_
         refine e_end (by kernel_rfl) ?_
         refine then_normal ?_
         refine cond_ff hr (b := false) rfl ?_
         refine wp_skip ?_
         refine then_normal ?_
         replace h := own_sl31_sh (x := (at_ r7.Reads g43.toNat)) h
         replace h : Fit z (sepL (rn31 car12 ccr13 r7.Reads :: ro3 car3 ccr4 r1 :: ob86 b17 r7 car10 ccr11 car12 ccr13 car14 ccr15 car16 r7.Log.length :: ro3 car10 ccr11 r7.Holders :: ro2 car14 ccr15 r7.Marks :: ro96 car16 r7.Log.length r7.Log :: L)) _ := Fit.rowH_same (h.pick 1)
         replace hr := hr.fold2 [(5, .slice car3 r1.length ccr4), (6, pA b17 0), (8, vI g29), (10, vI g43), (110, vB g50), (111, vB g50), (123, vB false)] (by kernel_rfl); obtain ⟨j, hr⟩ := hr
         replace h : Fit z (sepL (ro3 car3 ccr4 r1 :: ob86 b17 r7 car10 ccr11 car12 ccr13 car14 ccr15 car16 r7.Log.length :: ro3 car10 ccr11 r7.Holders :: rn31 car12 ccr13 r7.Reads :: ro2 car14 ccr15 r7.Marks :: ro96 car16 r7.Log.length r7.Log :: L)) _ := h.sel 6 [1, 2, 3, 0, 4, 5] (by kernel_rfl) (by kernel_rfl)
         exact ⟨(), false, sinj H, j, hr, h⟩
      clear h hr a; rintro _ a w ⟨g54, rfl, j, hr, h⟩
      replace H := jk1 hK55
      refine sr ?_
      refine o1 hr (vI 0) fun a hr => ?_
      refine ln ?_
      refine wp_block ?_
      replace hr := hr.fold2 [(5, .slice car3 r1.length ccr4), (6, pA b17 0), (8, vI g29), (10, vI g43), (12, vI 0), (110, vB g50), (111, vB g50), (123, vB g54)] (by kernel_rfl); obtain ⟨j, hr⟩ := hr
      refine loop_rule (β := Nat) id (fun m a w => ∃ g66 : Int, (plunderlaw8_FramesSync_l3 K r7 g43 g50 g54 m g66) = some o49 ∧ ∃ j, Rep 179 (lk [(5, .slice car3 r1.length ccr4), (6, pA b17 0), (8, vI g29), (10, vI g43), (12, vI g66), (110, vB g50), (111, vB g50), (123, vB g54)] j) a ∧ Fit z (sepL (ro3 car3 ccr4 r1 :: ob86 b17 r7 car10 ccr11 car12 ccr13 car14 ccr15 car16 r7.Log.length :: ro3 car10 ccr11 r7.Holders :: rn31 car12 ccr13 r7.Reads :: ro2 car14 ccr15 r7.Marks :: ro96 car16 r7.Log.length r7.Log :: L)) w) K ⟨0, H, j, hr, h⟩ ?_
      clear h hr a H; rintro k3 a w ⟨g66, H, j, hr, h⟩
      cases k3 with
      | zero => exact absurd H (by simp [plunderlaw8_FramesSync_l3])
      | succ k3 =>
       rw [plunderlaw8_FramesSync_l3] at H
       refine wp_seq ?_
       refine sr ?_
       refine oo [125, 126] [vI g66, pA b17 3] hr fun a hr => ?_
       refine ld (wn rfl) hr (.slice car12 r7.Reads.length ccr13) ((h.pick 1).cell 3 rfl) fun a hr => ?_
       obtain ⟨c67, H⟩ := gd H
       refine o1 hr (vI g43) fun a hr => ?_
       refine opv (wn rfl) hr (pA (blk car12) (g43.toNat * 1)) (ri_rowN (k := .i64) (E := 31) rfl (by kernel_rfl) (by kernel_rfl) (by kernel_rfl) (by kernel_rfl) (h.pick 3) c67) fun a hr => ?_
       obtain ⟨cs71, h⟩ := (h.pick 3).rowN_take (at_ok c67)
       obtain ⟨ca68, cc69, e70, h⟩ := own_sl31_op (h.pick 1); subst e70
       replace h : Fit z (sepL (ro2 ca68 cc69 (at_ r7.Reads g43.toNat) :: rowH 31 1 own_sl31 (.slice car12 r7.Reads.length ccr13) r7.Reads g43.toNat [.slice ca68 (at_ r7.Reads g43.toNat).length cc69] :: ro3 car3 ccr4 r1 :: ob86 b17 r7 car10 ccr11 car12 ccr13 car14 ccr15 car16 r7.Log.length :: ro3 car10 ccr11 r7.Holders :: ro2 car14 ccr15 r7.Marks :: ro96 car16 r7.Log.length r7.Log :: L)) _ := h
       refine ld (wn rfl) hr (.slice ca68 (at_ r7.Reads g43.toNat).length cc69) ((h.pick 1).rowH_cell (by decide) (f := 0) rfl) fun a hr => ?_
       refine oo [131, 132] [vI (((at_ r7.Reads g43.toNat).length : Nat) : Int), vB (decide (g66 < (((at_ r7.Reads g43.toNat).length : Nat) : Int)))] hr fun a hr => ?_
       refine ln ?_
       by_cases c72 : g66 < (((at_ r7.Reads g43.toNat).length : Nat) : Int)
       ·
        replace H := ifT c72 H
        refine cond_tt hr (decide_eq_true c72) ?_
        refine wp_skip ?_
        refine then_normal ?_
        refine wp_seq ?_
        refine wp_block ?_
        refine sr ?_
        refine o1 hr (pA b17 3) fun a hr => ?_
        refine ld (wn rfl) hr (.slice car12 r7.Reads.length ccr13) ((h.pick 3).cell 3 rfl) fun a hr => ?_
        refine o1 hr (vI g43) fun a hr => ?_
        refine opv (wn rfl) hr (pA (blk car12) (g43.toNat * 1)) (ri_rowH (k := .i64) (E := 31) rfl (by kernel_rfl) (by kernel_rfl) (by kernel_rfl) (by kernel_rfl) (h.pick 1) c67) fun a hr => ?_
        refine ld (wn rfl) hr (.slice ca68 (at_ r7.Reads g43.toNat).length cc69) ((h.pick 1).rowH_cell (by decide) (f := 0) rfl) fun a hr => ?_
        obtain ⟨c73, H⟩ := gd H
        refine o1 hr (vI g66) fun a hr => ?_
        refine opv (wn rfl) hr (pA (blk ca68) (g66.toNat * 1)) (ri_row (k := .i64) (E := 2) rfl (by kernel_rfl) (by kernel_rfl) (by kernel_rfl) (by kernel_rfl) h c73) fun a hr => ?_
        refine ld (wn rfl) hr (vI (at_ (at_ r7.Reads g43.toNat) g66.toNat)) (h.row_cell encZ_i64_ok (f := 0) (at_ok c73) rfl) fun a hr => ?_
        refine oo [143, 144, 145, 146, 147] [vI g43, vI (wi ((100 : Int) * g43)), vI g66, vI (wi ((wi ((100 : Int) * g43)) + g66)), vB ((at_ (at_ r7.Reads g43.toNat) g66.toNat) != (wi ((wi ((100 : Int) * g43)) + g66)))] hr fun a hr => ?_
        refine ln ?_
        by_cases c74 : (at_ (at_ r7.Reads g43.toNat) g66.toNat) = (wi ((wi ((100 : Int) * g43)) + g66))
        ·
         replace H := ifT c74 H
         refine cond_ff hr (bne_eq_false_iff_eq.mpr c74) ?_
         refine wp_skip ?_
         refine blk_normal ?_
         refine then_normal ?_
         refine wp_region_lit ?_
         refine oo [133, 134, 12] [vI g66, vI (wi (g66 + 1)), vI (wi (g66 + 1))] hr fun a hr => ?_
         refine ln ?_
         replace h := own_sl31_sh (x := (at_ r7.Reads g43.toNat)) h
         replace h : Fit z (sepL (rn31 car12 ccr13 r7.Reads :: ro3 car3 ccr4 r1 :: ob86 b17 r7 car10 ccr11 car12 ccr13 car14 ccr15 car16 r7.Log.length :: ro3 car10 ccr11 r7.Holders :: ro2 car14 ccr15 r7.Marks :: ro96 car16 r7.Log.length r7.Log :: L)) _ := Fit.rowH_same (h.pick 1)
         replace hr := hr.fold2 [(5, .slice car3 r1.length ccr4), (6, pA b17 0), (8, vI g29), (10, vI g43), (12, vI (wi (g66 + 1))), (110, vB g50), (111, vB g50), (123, vB g54)] (by kernel_rfl); obtain ⟨j, hr⟩ := hr
         replace h : Fit z (sepL (ro3 car3 ccr4 r1 :: ob86 b17 r7 car10 ccr11 car12 ccr13 car14 ccr15 car16 r7.Log.length :: ro3 car10 ccr11 r7.Holders :: rn31 car12 ccr13 r7.Reads :: ro2 car14 ccr15 r7.Marks :: ro96 car16 r7.Log.length r7.Log :: L)) _ := h.sel 6 [1, 2, 3, 0, 4, 5] (by kernel_rfl) (by kernel_rfl)
         exact ⟨_, ⟨(wi (g66 + 1)), H, j, hr, h⟩, Nat.lt_succ_self _⟩
        ·
         replace H := ifF c74 H
         refine cond_tt hr (bne_iff_ne.mpr c74) ?_
         refine sr ?_
         refine o1 hr (vB false) fun a hr => ?_
         refine ln ?_
         refine wp_ret ?_
         refine blk_ret ?_
         refine then_ret ?_
         refine then_ret ?_
         refine blk_ret ?_
         refine blk_ret ?_
         refine then_ret ?_
         refine then_ret ?_
         refine blk_ret ?_
         refine then_ret ?_
         refine end_ret1 (v := vB false) rfl hr (by kernel_rfl) ?_
         replace h := own_sl31_sh (x := (at_ r7.Reads g43.toNat)) h
         replace h : Fit z (sepL (rn31 car12 ccr13 r7.Reads :: ro3 car3 ccr4 r1 :: ob86 b17 r7 car10 ccr11 car12 ccr13 car14 ccr15 car16 r7.Log.length :: ro3 car10 ccr11 r7.Holders :: ro2 car14 ccr15 r7.Marks :: ro96 car16 r7.Log.length r7.Log :: L)) _ := Fit.rowH_same (h.pick 1)
         replace H := jx3 H hK48
         replace H := jx0 H hK41
         replace h : Fit z (sepL (L)) _ := h.sel 6 [] (by kernel_rfl) (by kernel_rfl)
         replace H := ej1 H; subst H
         exact ⟨rfl, h⟩
       ·
        replace H := ifF c72 H
        refine cond_ff hr (decide_eq_false c72) ?_
        refine wp_exit ?_
        refine then_exit ?_
        refine then_exit ?_
        refine blk_here ?_
        refine blk_normal ?_
        refine then_normal ?_
        replace h := own_sl31_sh (x := (at_ r7.Reads g43.toNat)) h
        replace h : Fit z (sepL (rn31 car12 ccr13 r7.Reads :: ro3 car3 ccr4 r1 :: ob86 b17 r7 car10 ccr11 car12 ccr13 car14 ccr15 car16 r7.Log.length :: ro3 car10 ccr11 r7.Holders :: ro2 car14 ccr15 r7.Marks :: ro96 car16 r7.Log.length r7.Log :: L)) _ := Fit.rowH_same (h.pick 1)
        replace hr := hr.fold2 [(5, .slice car3 r1.length ccr4), (6, pA b17 0), (8, vI g29), (10, vI g43), (110, vB g50), (111, vB g50), (123, vB g54)] (by kernel_rfl); obtain ⟨j, hr⟩ := hr
        replace h : Fit z (sepL (ro3 car3 ccr4 r1 :: ob86 b17 r7 car10 ccr11 car12 ccr13 car14 ccr15 car16 r7.Log.length :: ro3 car10 ccr11 r7.Holders :: rn31 car12 ccr13 r7.Reads :: ro2 car14 ccr15 r7.Marks :: ro96 car16 r7.Log.length r7.Log :: L)) _ := h.sel 6 [1, 2, 3, 0, 4, 5] (by kernel_rfl) (by kernel_rfl)
        exact ⟨(), g50, g50, g54, sinj H, j, hr, h⟩
     clear h hr a; rintro _ a w ⟨g45, g46, g47, rfl, j, hr, h⟩
     replace H := jk3 hK48
     refine wp_region_lit ?_
     refine oo [86, 87, 10] [vI g43, vI (wi (g43 + 1)), vI (wi (g43 + 1))] hr fun a hr => ?_
     refine ln ?_
     replace hr := hr.fold2 [(5, .slice car3 r1.length ccr4), (6, pA b17 0), (8, vI g29), (10, vI (wi (g43 + 1)))] (by kernel_rfl); obtain ⟨j, hr⟩ := hr
     exact ⟨_, ⟨(wi (g43 + 1)), H, j, hr, h⟩, Nat.lt_succ_self _⟩
    ·
     replace H := ifF c44 H
     refine cond_ff hr (decide_eq_false c44) ?_
     refine wp_exit ?_
     refine then_exit ?_
     refine then_exit ?_
     refine blk_here ?_
     refine then_normal ?_
     replace hr := hr.fold2 [(6, pA b17 0), (8, vI g29)] (by kernel_rfl); obtain ⟨j, hr⟩ := hr
     replace h : Fit z (sepL (ob86 b17 r7 car10 ccr11 car12 ccr13 car14 ccr15 car16 r7.Log.length :: ro3 car10 ccr11 r7.Holders :: rn31 car12 ccr13 r7.Reads :: ro2 car14 ccr15 r7.Marks :: ro96 car16 r7.Log.length r7.Log :: L)) _ := h.sel 6 [1, 2, 3, 4, 5] (by kernel_rfl) (by kernel_rfl)
     exact ⟨(), sinj H, j, hr, h⟩
  clear h hr a; rintro _ a w ⟨rfl, j, hr, h⟩
  replace H := jk0 hK41
  refine wp_seq ?_
  refine sr ?_
  refine o1 hr (vI 0) fun a hr => ?_
  refine ln ?_
  refine wp_block ?_
  replace hr := hr.fold2 [(6, pA b17 0), (8, vI g29), (13, vI 0)] (by kernel_rfl); obtain ⟨j, hr⟩ := hr
  refine loop_rule (β := Nat) id (fun m a w => ∃ g75 : Int, (plunderlaw8_FramesSync_l4 K r7 g29 m g75) = some r0 ∧ ∃ j, Rep 179 (lk [(6, pA b17 0), (8, vI g29), (13, vI g75)] j) a ∧ Fit z (sepL (ob86 b17 r7 car10 ccr11 car12 ccr13 car14 ccr15 car16 r7.Log.length :: ro3 car10 ccr11 r7.Holders :: rn31 car12 ccr13 r7.Reads :: ro2 car14 ccr15 r7.Marks :: ro96 car16 r7.Log.length r7.Log :: L)) w) K ⟨0, H, j, hr, h⟩ ?_
  clear h hr a H; rintro k4 a w ⟨g75, H, j, hr, h⟩
  cases k4 with
  | zero => exact absurd H (by simp [plunderlaw8_FramesSync_l4])
  | succ k4 =>
   rw [plunderlaw8_FramesSync_l4] at H
   refine wp_seq ?_
   refine sr ?_
   refine oo [148, 149, 150] [vI g75, vI g29, vB (decide (g75 < g29))] hr fun a hr => ?_
   refine ln ?_
   by_cases c76 : g75 < g29
   ·
    replace H := ifT c76 H
    refine cond_tt hr (decide_eq_true c76) ?_
    refine wp_skip ?_
    refine then_normal ?_
    refine wp_seq ?_
    refine wp_block ?_
    refine sr ?_
    refine o1 hr (pA b17 4) fun a hr => ?_
    refine ld (wn rfl) hr (.slice car14 r7.Marks.length ccr15) (h.cell 4 rfl) fun a hr => ?_
    obtain ⟨c77, H⟩ := gd H
    refine o1 hr (vI g75) fun a hr => ?_
    refine opv (wn rfl) hr (pA (blk car14) (g75.toNat * 1)) (ri_row (k := .i64) (E := 2) rfl (by kernel_rfl) (by kernel_rfl) (by kernel_rfl) (by kernel_rfl) (h.pick 3) c77) fun a hr => ?_
    refine ld (wn rfl) hr (vI (at_ r7.Marks g75.toNat)) ((h.pick 3).row_cell encZ_i64_ok (f := 0) (at_ok c77) rfl) fun a hr => ?_
    refine oo [158, 159] [vB (decide ((at_ r7.Marks g75.toNat) < 0)), vB (decide ((at_ r7.Marks g75.toNat) < 0))] hr fun a hr => ?_
    by_cases c78 : (at_ r7.Marks g75.toNat) < 0
    ·
     replace H := ifT c78 H
     refine offg (wgt hr (decide_eq_true c78)) hr fun a hr => ?_
     refine offg (wgt hr (decide_eq_true c78)) hr fun a hr => ?_
     refine offg (wgt hr (decide_eq_true c78)) hr fun a hr => ?_
     refine offg (wgt hr (decide_eq_true c78)) hr fun a hr => ?_
     refine offg (wgt hr (decide_eq_true c78)) hr fun a hr => ?_
     refine offg (wgt hr (decide_eq_true c78)) hr fun a hr => ?_
     refine opv (wn rfl) hr (vB true) (rp_t (b := (decide ((at_ r7.Marks g75.toNat) < 0))) rfl (by kernel_rfl) (decide_eq_true c78) (by kernel_rfl)) fun a hr => ?_
     refine o1 hr (vB true) fun a hr => ?_
     refine offg (wgt hr (c := true) rfl) hr fun a hr => ?_
     refine offg (wgt hr (c := true) rfl) hr fun a hr => ?_
     refine offg (wgt hr (c := true) rfl) hr fun a hr => ?_
     refine offg (wg_undef hr rfl rfl rfl (by kernel_rfl)) hr fun a hr => ?_
     refine offg (wg_undef hr rfl rfl rfl (by kernel_rfl)) hr fun a hr => ?_
     refine offg (wg_undef hr rfl rfl rfl (by kernel_rfl)) hr fun a hr => ?_
     refine offg (wg_undef hr rfl rfl rfl (by kernel_rfl)) hr fun a hr => ?_
     refine offg (wg_undef hr rfl rfl rfl (by kernel_rfl)) hr fun a hr => ?_
     refine offg (wg_undef hr rfl rfl rfl (by kernel_rfl)) hr fun a hr => ?_
     refine offg (wgt hr (c := true) rfl) hr fun a hr => ?_
     refine o1 hr (vB true) fun a hr => ?_
     refine ln ?_
     refine cond_tt hr (b := true) rfl ?_
     refine sr ?_
     refine o1 hr (vB false) fun a hr => ?_
     refine ln ?_
     refine wp_ret ?_
     refine blk_ret ?_
     refine then_ret ?_
     refine then_ret ?_
     refine blk_ret ?_
     refine then_ret ?_
     refine end_ret1 (v := vB false) rfl hr (by kernel_rfl) ?_
     replace h : Fit z (sepL (L)) _ := h.sel 5 [] (by kernel_rfl) (by kernel_rfl)
     replace H := ej1 H; subst H
     exact ⟨rfl, h⟩
    ·
     replace H := ifF c78 H
     refine opv (wgt hr (decide_eq_false c78)) hr (pA b17 4) (by kernel_rfl) fun a hr => ?_
     refine ld (wgt hr (decide_eq_false c78)) hr (.slice car14 r7.Marks.length ccr15) (h.cell 4 rfl) fun a hr => ?_
     refine opv (wgt hr (decide_eq_false c78)) hr (vI g75) (by kernel_rfl) fun a hr => ?_
     refine opv (wgt hr (decide_eq_false c78)) hr (pA (blk car14) (g75.toNat * 1)) (ri_row (k := .i64) (E := 2) rfl (by kernel_rfl) (by kernel_rfl) (by kernel_rfl) (by kernel_rfl) (h.pick 3) c77) fun a hr => ?_
     refine ld (wgt hr (decide_eq_false c78)) hr (vI (at_ r7.Marks g75.toNat)) ((h.pick 3).row_cell encZ_i64_ok (f := 0) (at_ok c77) rfl) fun a hr => ?_
     refine opv (wgt hr (decide_eq_false c78)) hr (vB (decide ((at_ r7.Marks g75.toNat) > 1))) (by kernel_rfl) fun a hr => ?_
     refine opv (wn rfl) hr (vB (decide ((at_ r7.Marks g75.toNat) > 1))) (rp_f (b := (decide ((at_ r7.Marks g75.toNat) < 0))) rfl (by kernel_rfl) (decide_eq_false c78) (by kernel_rfl)) fun a hr => ?_
     refine o1 hr (vB (decide ((at_ r7.Marks g75.toNat) > 1))) fun a hr => ?_
     by_cases c79 : (at_ r7.Marks g75.toNat) > 1
     ·
      replace H := ifT c79 H
      refine offg (wgt hr (decide_eq_true c79)) hr fun a hr => ?_
      refine offg (wgt hr (decide_eq_true c79)) hr fun a hr => ?_
      refine offg (wgt hr (decide_eq_true c79)) hr fun a hr => ?_
      refine offg (wg_undef hr rfl rfl rfl (by kernel_rfl)) hr fun a hr => ?_
      refine offg (wg_undef hr rfl rfl rfl (by kernel_rfl)) hr fun a hr => ?_
      refine offg (wg_undef hr rfl rfl rfl (by kernel_rfl)) hr fun a hr => ?_
      refine offg (wg_undef hr rfl rfl rfl (by kernel_rfl)) hr fun a hr => ?_
      refine offg (wg_undef hr rfl rfl rfl (by kernel_rfl)) hr fun a hr => ?_
      refine offg (wg_undef hr rfl rfl rfl (by kernel_rfl)) hr fun a hr => ?_
      refine offg (wgt hr (decide_eq_true c79)) hr fun a hr => ?_
      refine opv (wn rfl) hr (vB true) (rp_t (b := (decide ((at_ r7.Marks g75.toNat) > 1))) rfl (by kernel_rfl) (decide_eq_true c79) (by kernel_rfl)) fun a hr => ?_
      refine ln ?_
      refine cond_tt hr (b := true) rfl ?_
      refine sr ?_
      refine o1 hr (vB false) fun a hr => ?_
      refine ln ?_
      refine wp_ret ?_
      refine blk_ret ?_
      refine then_ret ?_
      refine then_ret ?_
      refine blk_ret ?_
      refine then_ret ?_
      refine end_ret1 (v := vB false) rfl hr (by kernel_rfl) ?_
      replace h : Fit z (sepL (L)) _ := h.sel 5 [] (by kernel_rfl) (by kernel_rfl)
      replace H := ej1 H; subst H
      exact ⟨rfl, h⟩
     ·
      replace H := ifF c79 H
      refine opv (wgt hr (decide_eq_false c79)) hr (pA b17 0) (by kernel_rfl) fun a hr => ?_
      refine ld (wgt hr (decide_eq_false c79)) hr (vB r7.Done) (h.cell 0 rfl) fun a hr => ?_
      refine opv (wgt hr (decide_eq_false c79)) hr (vB r7.Done) (by kernel_rfl) fun a hr => ?_
      by_cases c80 : r7.Done = true
      ·
       replace H := ifT c80 H
       refine opv (wgt hr (c80)) hr (pA b17 4) (by kernel_rfl) fun a hr => ?_
       refine ld (wgt hr (c80)) hr (.slice car14 r7.Marks.length ccr15) (h.cell 4 rfl) fun a hr => ?_
       refine opv (wgt hr (c80)) hr (vI g75) (by kernel_rfl) fun a hr => ?_
       refine opv (wgt hr (c80)) hr (pA (blk car14) (g75.toNat * 1)) (ri_row (k := .i64) (E := 2) rfl (by kernel_rfl) (by kernel_rfl) (by kernel_rfl) (by kernel_rfl) (h.pick 3) c77) fun a hr => ?_
       refine ld (wgt hr (c80)) hr (vI (at_ r7.Marks g75.toNat)) ((h.pick 3).row_cell encZ_i64_ok (f := 0) (at_ok c77) rfl) fun a hr => ?_
       refine opv (wgt hr (c80)) hr (vB ((at_ r7.Marks g75.toNat) != 1)) (by kernel_rfl) fun a hr => ?_
       refine opv (wgt hr (decide_eq_false c79)) hr (vB ((at_ r7.Marks g75.toNat) != 1)) (rp_t (b := r7.Done) rfl (by kernel_rfl) (c80) (by kernel_rfl)) fun a hr => ?_
       refine opv (wn rfl) hr (vB ((at_ r7.Marks g75.toNat) != 1)) (rp_f (b := (decide ((at_ r7.Marks g75.toNat) > 1))) rfl (by kernel_rfl) (decide_eq_false c79) (by kernel_rfl)) fun a hr => ?_
       refine ln ?_
       by_cases c81 : (at_ r7.Marks g75.toNat) = 1
       ·
        replace H := ifT c81 H
        refine cond_ff hr (bne_eq_false_iff_eq.mpr c81) ?_
        refine wp_skip ?_
        refine blk_normal ?_
        refine then_normal ?_
        refine wp_region_lit ?_
        refine oo [151, 152, 13] [vI g75, vI (wi (g75 + 1)), vI (wi (g75 + 1))] hr fun a hr => ?_
        refine ln ?_
        replace hr := hr.fold2 [(6, pA b17 0), (8, vI g29), (13, vI (wi (g75 + 1)))] (by kernel_rfl); obtain ⟨j, hr⟩ := hr
        exact ⟨_, ⟨(wi (g75 + 1)), H, j, hr, h⟩, Nat.lt_succ_self _⟩
       ·
        replace H := ifF c81 H
        refine cond_tt hr (bne_iff_ne.mpr c81) ?_
        refine sr ?_
        refine o1 hr (vB false) fun a hr => ?_
        refine ln ?_
        refine wp_ret ?_
        refine blk_ret ?_
        refine then_ret ?_
        refine then_ret ?_
        refine blk_ret ?_
        refine then_ret ?_
        refine end_ret1 (v := vB false) rfl hr (by kernel_rfl) ?_
        replace h : Fit z (sepL (L)) _ := h.sel 5 [] (by kernel_rfl) (by kernel_rfl)
        replace H := ej1 H; subst H
        exact ⟨rfl, h⟩
      ·
       replace H := ifF c80 H
       refine offg (wgt hr (bF c80)) hr fun a hr => ?_
       refine offg (wgt hr (bF c80)) hr fun a hr => ?_
       refine offg (wgt hr (bF c80)) hr fun a hr => ?_
       refine offg (wgt hr (bF c80)) hr fun a hr => ?_
       refine offg (wgt hr (bF c80)) hr fun a hr => ?_
       refine offg (wgt hr (bF c80)) hr fun a hr => ?_
       refine opv (wgt hr (decide_eq_false c79)) hr (vB false) (rp_f (b := r7.Done) rfl (by kernel_rfl) (bF c80) (by kernel_rfl)) fun a hr => ?_
       refine opv (wn rfl) hr (vB false) (rp_f (b := (decide ((at_ r7.Marks g75.toNat) > 1))) rfl (by kernel_rfl) (decide_eq_false c79) (by kernel_rfl)) fun a hr => ?_
       refine ln ?_
       refine cond_ff hr (b := false) rfl ?_
       refine wp_skip ?_
       refine blk_normal ?_
       refine then_normal ?_
       refine wp_region_lit ?_
       refine oo [151, 152, 13] [vI g75, vI (wi (g75 + 1)), vI (wi (g75 + 1))] hr fun a hr => ?_
       refine ln ?_
       replace hr := hr.fold2 [(6, pA b17 0), (8, vI g29), (13, vI (wi (g75 + 1)))] (by kernel_rfl); obtain ⟨j, hr⟩ := hr
       exact ⟨_, ⟨(wi (g75 + 1)), H, j, hr, h⟩, Nat.lt_succ_self _⟩
   ·
    replace H := ifF c76 H
    refine cond_ff hr (decide_eq_false c76) ?_
    refine wp_exit ?_
    refine then_exit ?_
    refine then_exit ?_
    refine blk_here ?_
    refine then_normal ?_
    refine sr ?_
    refine o1 hr (vB true) fun a hr => ?_
    refine ln ?_
    refine wp_ret ?_
    refine end_ret1 (v := vB true) rfl hr (by kernel_rfl) ?_
    replace h : Fit z (sepL (L)) _ := h.sel 5 [] (by kernel_rfl) (by kernel_rfl)
    replace H := ej1 H; subst H
    exact ⟨rfl, h⟩
 ·
  replace H := ifF c5 H
  refine cond_ff hr (decide_eq_false c5) ?_
  refine wp_skip ?_
  refine then_normal ?_
  refine sr ?_
  refine oo [8, 2] [.slice va1 p1.length vc1, .slice va1 p1.length vc1] hr fun a hr => ?_
  refine ln ?_
  refine wp_ret ?_
  refine end_ret1 (v := .slice va1 p1.length vc1) rfl hr (by kernel_rfl) ?_
  refine ⟨_, rfl, ?_⟩; clear hr a; intro a hr
  obtain ⟨r82, r83, e84, H⟩ := bd2 H
  have hc := frames_Play_ok (va0 := car3) (vc0 := ccr4) (va1 := va1) (vc1 := vc1) (hv0 := (RdRow.of_row encZ_i64_ok h (fun h => h))) (hv1 := (RdRow.up 1 hv1)) (H := e84) (h := h)
  refine cl (wn rfl) hr hc ?_; clear hc h
  rintro _ w ⟨car85, ccr86, car87, ccr88, car89, ccr90, car91, rfl, h⟩; refine ⟨_, rfl, fun a hr => ?_⟩
  refine oo [16, 21, 22] [.tuple #[.agg #[vB r82.Done, vI r82.Steps, .slice car85 r82.Holders.length ccr86, .slice car87 r82.Reads.length ccr88, .slice car89 r82.Marks.length ccr90, .slice car91 r82.Log.length r82.Log.length], vI r83], .agg #[vB r82.Done, vI r82.Steps, .slice car85 r82.Holders.length ccr86, .slice car87 r82.Reads.length ccr88, .slice car89 r82.Marks.length ccr90, .slice car91 r82.Log.length r82.Log.length], vI r83] hr fun a hr => ?_
  refine onew (wn rfl) hr h nb (#[vB false, vI 0, .slice none 0 0, .slice none 0 0, .slice none 0 0, .slice none 0 0]) 86 fun b92 w a h hr => ?_
  refine stos (wn rfl) hr h 0 ([vB r82.Done, vI r82.Steps, .slice car85 r82.Holders.length ccr86, .slice car87 r82.Reads.length ccr88, .slice car89 r82.Marks.length ccr90, .slice car91 r82.Log.length r82.Log.length]) (#[vB r82.Done, vI r82.Steps, .slice car85 r82.Holders.length ccr86, .slice car87 r82.Reads.length ccr88, .slice car89 r82.Marks.length ccr90, .slice car91 r82.Log.length r82.Log.length]) fun w h => ?_
  refine o1 hr (vI r83) fun a hr => ?_
  refine wpList_nil ?_
  replace h : Fit z (sepL (ob86 b92 r82 car85 ccr86 car87 ccr88 car89 ccr90 car91 r82.Log.length :: ro3 car85 ccr86 r82.Holders :: rn31 car87 ccr88 r82.Reads :: ro2 car89 ccr90 r82.Marks :: ro96 car91 r82.Log.length r82.Log :: ro3 car3 ccr4 r1 :: L)) _ := h
  refine then_normal ?_
  obtain ⟨o94, H, hK93⟩ := jd0 H
  refine cut_rule (β := Unit) (fun _ a w => .inl () = o94 ∧ ∃ j, Rep 179 (lk [(1, .slice va1 p1.length vc1), (5, .slice car3 r1.length ccr4), (6, pA b92 0)] j) a ∧ Fit z (sepL (ro3 car3 ccr4 r1 :: ob86 b92 r82 car85 ccr86 car87 ccr88 car89 ccr90 car91 r82.Log.length :: ro3 car85 ccr86 r82.Holders :: rn31 car87 ccr88 r82.Reads :: ro2 car89 ccr90 r82.Marks :: ro96 car91 r82.Log.length r82.Log :: L)) w) ?_ ?_
  ·
   refine sr ?_
   refine oo [23, 24, 25] [vI r83, vB (r83 != 0), vB (r83 != 0)] hr fun a hr => ?_
   by_cases c95 : r83 = 0
   ·
    replace H := ifT c95 H
    refine opv (wgt hr (bne_eq_false_iff_eq.mpr c95)) hr (pA b92 3) (by kernel_rfl) fun a hr => ?_
    refine ld (wgt hr (bne_eq_false_iff_eq.mpr c95)) hr (.slice car87 r82.Reads.length ccr88) (h.cell 3 rfl) fun a hr => ?_
    refine opv (wgt hr (bne_eq_false_iff_eq.mpr c95)) hr (vI ((r82.Reads.length : Nat) : Int)) (by kernel_rfl) fun a hr => ?_
    refine opv (wgt hr (bne_eq_false_iff_eq.mpr c95)) hr (pA b92 2) (by kernel_rfl) fun a hr => ?_
    refine ld (wgt hr (bne_eq_false_iff_eq.mpr c95)) hr (.slice car85 r82.Holders.length ccr86) (h.cell 2 rfl) fun a hr => ?_
    refine opv (wgt hr (bne_eq_false_iff_eq.mpr c95)) hr (vI ((r82.Holders.length : Nat) : Int)) (by kernel_rfl) fun a hr => ?_
    refine opv (wgt hr (bne_eq_false_iff_eq.mpr c95)) hr (vB (((r82.Reads.length : Nat) : Int) != ((r82.Holders.length : Nat) : Int))) (by kernel_rfl) fun a hr => ?_
    refine opv (wn rfl) hr (vB (((r82.Reads.length : Nat) : Int) != ((r82.Holders.length : Nat) : Int))) (rp_f (b := (r83 != 0)) rfl (by kernel_rfl) (bne_eq_false_iff_eq.mpr c95) (by kernel_rfl)) fun a hr => ?_
    refine o1 hr (vB (((r82.Reads.length : Nat) : Int) != ((r82.Holders.length : Nat) : Int))) fun a hr => ?_
    by_cases c96 : ((r82.Reads.length : Nat) : Int) = ((r82.Holders.length : Nat) : Int)
    ·
     replace H := ifT c96 H
     refine opv (wgt hr (bne_eq_false_iff_eq.mpr c96)) hr (pA b92 3) (by kernel_rfl) fun a hr => ?_
     refine ld (wgt hr (bne_eq_false_iff_eq.mpr c96)) hr (.slice car87 r82.Reads.length ccr88) (h.cell 3 rfl) fun a hr => ?_
     refine opv (wgt hr (bne_eq_false_iff_eq.mpr c96)) hr (vI ((r82.Reads.length : Nat) : Int)) (by kernel_rfl) fun a hr => ?_
     refine opv (wgt hr (bne_eq_false_iff_eq.mpr c96)) hr (.slice car3 r1.length ccr4) (by kernel_rfl) fun a hr => ?_
     refine opv (wgt hr (bne_eq_false_iff_eq.mpr c96)) hr (vI ((r1.length : Nat) : Int)) (by kernel_rfl) fun a hr => ?_
     refine opv (wgt hr (bne_eq_false_iff_eq.mpr c96)) hr (vB (decide (((r82.Reads.length : Nat) : Int) > ((r1.length : Nat) : Int)))) (by kernel_rfl) fun a hr => ?_
     refine opv (wn rfl) hr (vB (decide (((r82.Reads.length : Nat) : Int) > ((r1.length : Nat) : Int)))) (rp_f (b := (((r82.Reads.length : Nat) : Int) != ((r82.Holders.length : Nat) : Int))) rfl (by kernel_rfl) (bne_eq_false_iff_eq.mpr c96) (by kernel_rfl)) fun a hr => ?_
     refine ln ?_
     by_cases c97 : ((r82.Reads.length : Nat) : Int) > ((r1.length : Nat) : Int)
     ·
      replace H := ifT c97 H
      refine cond_tt hr (decide_eq_true c97) ?_
      refine sr ?_
      refine o1 hr (vB false) fun a hr => ?_
      refine ln ?_
      refine wp_ret ?_
      refine then_ret ?_
      refine end_ret1 (v := vB false) rfl hr (by kernel_rfl) ?_
      replace H := jx0 H hK93
      replace h : Fit z (sepL (L)) _ := h.sel 6 [] (by kernel_rfl) (by kernel_rfl)
      replace H := ej1 H; subst H
      exact ⟨rfl, h⟩
     ·
      replace H := ifF c97 H
      refine cond_ff hr (decide_eq_false c97) ?_
      refine wp_skip ?_
      refine then_normal ?_
      replace hr := hr.fold2 [(1, .slice va1 p1.length vc1), (5, .slice car3 r1.length ccr4), (6, pA b92 0)] (by kernel_rfl); obtain ⟨j, hr⟩ := hr
      replace h : Fit z (sepL (ro3 car3 ccr4 r1 :: ob86 b92 r82 car85 ccr86 car87 ccr88 car89 ccr90 car91 r82.Log.length :: ro3 car85 ccr86 r82.Holders :: rn31 car87 ccr88 r82.Reads :: ro2 car89 ccr90 r82.Marks :: ro96 car91 r82.Log.length r82.Log :: L)) _ := h.sel 6 [5, 0, 1, 2, 3, 4] (by kernel_rfl) (by kernel_rfl)
      exact ⟨(), sinj H, j, hr, h⟩
    ·
     replace H := ifF c96 H
     refine offg (wgt hr (bne_iff_ne.mpr c96)) hr fun a hr => ?_
     refine offg (wgt hr (bne_iff_ne.mpr c96)) hr fun a hr => ?_
     refine offg (wgt hr (bne_iff_ne.mpr c96)) hr fun a hr => ?_
     refine offg (wgt hr (bne_iff_ne.mpr c96)) hr fun a hr => ?_
     refine offg (wgt hr (bne_iff_ne.mpr c96)) hr fun a hr => ?_
     refine offg (wgt hr (bne_iff_ne.mpr c96)) hr fun a hr => ?_
     refine opv (wn rfl) hr (vB true) (rp_t (b := (((r82.Reads.length : Nat) : Int) != ((r82.Holders.length : Nat) : Int))) rfl (by kernel_rfl) (bne_iff_ne.mpr c96) (by kernel_rfl)) fun a hr => ?_
     refine ln ?_
     refine cond_tt hr (b := true) rfl ?_
     refine sr ?_
     refine o1 hr (vB false) fun a hr => ?_
     refine ln ?_
     refine wp_ret ?_
     refine then_ret ?_
     refine end_ret1 (v := vB false) rfl hr (by kernel_rfl) ?_
     replace H := jx0 H hK93
     replace h : Fit z (sepL (L)) _ := h.sel 6 [] (by kernel_rfl) (by kernel_rfl)
     replace H := ej1 H; subst H
     exact ⟨rfl, h⟩
   ·
    replace H := ifF c95 H
    refine offg (wgt hr (bne_iff_ne.mpr c95)) hr fun a hr => ?_
    refine offg (wgt hr (bne_iff_ne.mpr c95)) hr fun a hr => ?_
    refine offg (wgt hr (bne_iff_ne.mpr c95)) hr fun a hr => ?_
    refine offg (wgt hr (bne_iff_ne.mpr c95)) hr fun a hr => ?_
    refine offg (wgt hr (bne_iff_ne.mpr c95)) hr fun a hr => ?_
    refine offg (wgt hr (bne_iff_ne.mpr c95)) hr fun a hr => ?_
    refine offg (wgt hr (bne_iff_ne.mpr c95)) hr fun a hr => ?_
    refine opv (wn rfl) hr (vB true) (rp_t (b := (r83 != 0)) rfl (by kernel_rfl) (bne_iff_ne.mpr c95) (by kernel_rfl)) fun a hr => ?_
    refine o1 hr (vB true) fun a hr => ?_
    refine offg (wgt hr (c := true) rfl) hr fun a hr => ?_
    refine offg (wgt hr (c := true) rfl) hr fun a hr => ?_
    refine offg (wgt hr (c := true) rfl) hr fun a hr => ?_
    refine offg (wgt hr (c := true) rfl) hr fun a hr => ?_
    refine offg (wgt hr (c := true) rfl) hr fun a hr => ?_
    refine offg (wgt hr (c := true) rfl) hr fun a hr => ?_
    refine o1 hr (vB true) fun a hr => ?_
    refine ln ?_
    refine cond_tt hr (b := true) rfl ?_
    refine sr ?_
    refine o1 hr (vB false) fun a hr => ?_
    refine ln ?_
    refine wp_ret ?_
    refine then_ret ?_
    refine end_ret1 (v := vB false) rfl hr (by kernel_rfl) ?_
    replace H := jx0 H hK93
    replace h : Fit z (sepL (L)) _ := h.sel 6 [] (by kernel_rfl) (by kernel_rfl)
    replace H := ej1 H; subst H
    exact ⟨rfl, h⟩
  clear h hr a; rintro _ a w ⟨rfl, j, hr, h⟩
  replace H := jk0 hK93
  obtain ⟨o99, H, hK98⟩ := jd0 H
  refine cut_rule (β := Unit) (fun _ a w => .inl () = o99 ∧ ∃ j, Rep 179 (lk [(5, .slice car3 r1.length ccr4), (6, pA b92 0)] j) a ∧ Fit z (sepL (ro3 car3 ccr4 r1 :: ob86 b92 r82 car85 ccr86 car87 ccr88 car89 ccr90 car91 r82.Log.length :: ro3 car85 ccr86 r82.Holders :: rn31 car87 ccr88 r82.Reads :: ro2 car89 ccr90 r82.Marks :: ro96 car91 r82.Log.length r82.Log :: L)) w) ?_ ?_
  ·
   refine sr ?_
   obtain ⟨r100, e101, H⟩ := bd1 H
   refine oo [42, 43, 44] [.slice va1 p1.length vc1, vI ((p1.length : Nat) : Int), .slice car3 r1.length ccr4] hr fun a hr => ?_
   have hc := plunderlaw8_length_ok (va0 := car3) (vc0 := ccr4) (hv0 := (RdRow.of_row encZ_i64_ok h (fun h => h))) (H := e101) (h := h)
   refine cl (wn rfl) hr hc ?_; clear hc h
   rintro _ w ⟨rfl, h⟩; refine ⟨_, rfl, fun a hr => ?_⟩
   refine oo [46, 47] [vB (decide (((p1.length : Nat) : Int) ≥ r100)), vB (decide (((p1.length : Nat) : Int) ≥ r100))] hr fun a hr => ?_
   by_cases c102 : ((p1.length : Nat) : Int) ≥ r100
   ·
    replace H := ifT c102 H
    refine opv (wgt hr (decide_eq_true c102)) hr (pA b92 0) (by kernel_rfl) fun a hr => ?_
    refine ld (wgt hr (decide_eq_true c102)) hr (vB r82.Done) ((h.pick 1).cell 0 rfl) fun a hr => ?_
    refine opv (wgt hr (decide_eq_true c102)) hr (vB (!r82.Done)) (by kernel_rfl) fun a hr => ?_
    refine opv (wn rfl) hr (vB (!r82.Done)) (rp_t (b := (decide (((p1.length : Nat) : Int) ≥ r100))) rfl (by kernel_rfl) (decide_eq_true c102) (by kernel_rfl)) fun a hr => ?_
    refine ln ?_
    by_cases c103 : r82.Done = true
    ·
     replace H := ifT c103 H
     refine cond_ff hr (b := (!r82.Done)) (by rw [show r82.Done = true from (c103)]; rfl) ?_
     refine wp_skip ?_
     refine then_normal ?_
     replace hr := hr.fold2 [(5, .slice car3 r1.length ccr4), (6, pA b92 0)] (by kernel_rfl); obtain ⟨j, hr⟩ := hr
     exact ⟨(), sinj H, j, hr, h⟩
    ·
     replace H := ifF c103 H
     refine cond_tt hr (b := (!r82.Done)) (by rw [show r82.Done = false from (bF c103)]; rfl) ?_
     refine sr ?_
     refine o1 hr (vB false) fun a hr => ?_
     refine ln ?_
     refine wp_ret ?_
     refine then_ret ?_
     refine end_ret1 (v := vB false) rfl hr (by kernel_rfl) ?_
     replace H := jx0 H hK98
     replace h : Fit z (sepL (L)) _ := h.sel 6 [] (by kernel_rfl) (by kernel_rfl)
     replace H := ej1 H; subst H
     exact ⟨rfl, h⟩
   ·
    replace H := ifF c102 H
    refine offg (wgt hr (decide_eq_false c102)) hr fun a hr => ?_
    refine offg (wgt hr (decide_eq_false c102)) hr fun a hr => ?_
    refine offg (wgt hr (decide_eq_false c102)) hr fun a hr => ?_
    refine opv (wn rfl) hr (vB false) (rp_f (b := (decide (((p1.length : Nat) : Int) ≥ r100))) rfl (by kernel_rfl) (decide_eq_false c102) (by kernel_rfl)) fun a hr => ?_
    refine ln ?_
    refine cond_ff hr (b := false) rfl ?_
    refine wp_skip ?_
    refine then_normal ?_
    replace hr := hr.fold2 [(5, .slice car3 r1.length ccr4), (6, pA b92 0)] (by kernel_rfl); obtain ⟨j, hr⟩ := hr
    exact ⟨(), sinj H, j, hr, h⟩
  clear h hr a; rintro _ a w ⟨rfl, j, hr, h⟩
  replace H := jk0 hK98
  refine sr ?_
  refine o1 hr (vI 1) fun a hr => ?_
  refine ln ?_
  obtain ⟨o106, H, hK105⟩ := kd1 H
  refine cut_rule (β := Unit) (fun _ a w => ∃ g104 : Int, g104 = o106 ∧ ∃ j, Rep 179 (lk [(5, .slice car3 r1.length ccr4), (6, pA b92 0), (8, vI g104)] j) a ∧ Fit z (sepL (ro3 car3 ccr4 r1 :: ob86 b92 r82 car85 ccr86 car87 ccr88 car89 ccr90 car91 r82.Log.length :: ro3 car85 ccr86 r82.Holders :: rn31 car87 ccr88 r82.Reads :: ro2 car89 ccr90 r82.Marks :: ro96 car91 r82.Log.length r82.Log :: L)) w) ?_ ?_
  ·
   refine sr ?_
   refine o1 hr (vI 0) fun a hr => ?_
   refine ln ?_
   refine wp_block ?_
   replace hr := hr.fold2 [(5, .slice car3 r1.length ccr4), (6, pA b92 0), (8, vI 1), (9, vI 0)] (by kernel_rfl); obtain ⟨j, hr⟩ := hr
   refine loop_rule (β := Nat) id (fun m a w => ∃ g107 : Int, ∃ g108 : Int, (plunderlaw8_FramesSync_l5 K r1 m g107 g108) = some o106 ∧ ∃ j, Rep 179 (lk [(5, .slice car3 r1.length ccr4), (6, pA b92 0), (8, vI g107), (9, vI g108)] j) a ∧ Fit z (sepL (ro3 car3 ccr4 r1 :: ob86 b92 r82 car85 ccr86 car87 ccr88 car89 ccr90 car91 r82.Log.length :: ro3 car85 ccr86 r82.Holders :: rn31 car87 ccr88 r82.Reads :: ro2 car89 ccr90 r82.Marks :: ro96 car91 r82.Log.length r82.Log :: L)) w) K ⟨1, 0, H, j, hr, h⟩ ?_
   clear h hr a H; rintro k5 a w ⟨g107, g108, H, j, hr, h⟩
   cases k5 with
   | zero => exact absurd H (by simp [plunderlaw8_FramesSync_l5])
   | succ k5 =>
    rw [plunderlaw8_FramesSync_l5] at H
    refine wp_seq ?_
    refine sr ?_
    refine oo [52, 53, 54, 55] [vI g108, .slice car3 r1.length ccr4, vI ((r1.length : Nat) : Int), vB (decide (g108 < ((r1.length : Nat) : Int)))] hr fun a hr => ?_
    refine ln ?_
    by_cases c109 : g108 < ((r1.length : Nat) : Int)
    ·
     replace H := ifT c109 H
     refine cond_tt hr (decide_eq_true c109) ?_
     refine wp_skip ?_
     refine then_normal ?_
     refine wp_seq ?_
     refine wp_block ?_
     refine wp_region_lit ?_
     obtain ⟨c110, H⟩ := gd H
     refine oo [58, 59, 60] [vI g107, .slice car3 r1.length ccr4, vI g108] hr fun a hr => ?_
     refine opv (wn rfl) hr (pA (blk car3) (g108.toNat * 1)) (ri_row (k := .i64) (E := 3) rfl (by kernel_rfl) (by kernel_rfl) (by kernel_rfl) (by kernel_rfl) h c110) fun a hr => ?_
     refine ld (wn rfl) hr (vI (at_ r1 g108.toNat)) (h.row_cell encZ_i64_ok (f := 0) (at_ok c110) rfl) fun a hr => ?_
     refine oo [63, 8] [vI (wi (g107 + (at_ r1 g108.toNat))), vI (wi (g107 + (at_ r1 g108.toNat)))] hr fun a hr => ?_
     refine wpList_nil ?_
     refine blk_normal ?_
     refine then_normal ?_
     refine wp_region_lit ?_
     refine oo [56, 57, 9] [vI g108, vI (wi (g108 + 1)), vI (wi (g108 + 1))] hr fun a hr => ?_
     refine ln ?_
     replace hr := hr.fold2 [(5, .slice car3 r1.length ccr4), (6, pA b92 0), (8, vI (wi (g107 + (at_ r1 g108.toNat)))), (9, vI (wi (g108 + 1)))] (by kernel_rfl); obtain ⟨j, hr⟩ := hr
     exact ⟨_, ⟨(wi (g107 + (at_ r1 g108.toNat))), (wi (g108 + 1)), H, j, hr, h⟩, Nat.lt_succ_self _⟩
    ·
     replace H := ifF c109 H
     refine cond_ff hr (decide_eq_false c109) ?_
     refine wp_exit ?_
     refine then_exit ?_
     refine then_exit ?_
     refine blk_here ?_
     refine then_normal ?_
     replace hr := hr.fold2 [(5, .slice car3 r1.length ccr4), (6, pA b92 0), (8, vI g107)] (by kernel_rfl); obtain ⟨j, hr⟩ := hr
     exact ⟨(), g107, sinj H, j, hr, h⟩
  clear h hr a; rintro _ a w ⟨g104, rfl, j, hr, h⟩
  replace H := kk1 hK105
  obtain ⟨o112, H, hK111⟩ := jd0 H
  refine cut_rule (β := Unit) (fun _ a w => .inl () = o112 ∧ ∃ j, Rep 179 (lk [(5, .slice car3 r1.length ccr4), (6, pA b92 0), (8, vI g104)] j) a ∧ Fit z (sepL (ro3 car3 ccr4 r1 :: ob86 b92 r82 car85 ccr86 car87 ccr88 car89 ccr90 car91 r82.Log.length :: ro3 car85 ccr86 r82.Holders :: rn31 car87 ccr88 r82.Reads :: ro2 car89 ccr90 r82.Marks :: ro96 car91 r82.Log.length r82.Log :: L)) w) ?_ ?_
  ·
   refine sr ?_
   refine o1 hr (pA b92 4) fun a hr => ?_
   refine ld (wn rfl) hr (.slice car89 r82.Marks.length ccr90) ((h.pick 1).cell 4 rfl) fun a hr => ?_
   refine oo [66, 67, 68, 69] [vI ((r82.Marks.length : Nat) : Int), vI g104, vB (((r82.Marks.length : Nat) : Int) != g104), vB (((r82.Marks.length : Nat) : Int) != g104)] hr fun a hr => ?_
   by_cases c113 : ((r82.Marks.length : Nat) : Int) = g104
   ·
    replace H := ifT c113 H
    refine opv (wgt hr (bne_eq_false_iff_eq.mpr c113)) hr (pA b92 0) (by kernel_rfl) fun a hr => ?_
    refine ld (wgt hr (bne_eq_false_iff_eq.mpr c113)) hr (vB r82.Done) ((h.pick 1).cell 0 rfl) fun a hr => ?_
    refine opv (wgt hr (bne_eq_false_iff_eq.mpr c113)) hr (vB r82.Done) (by kernel_rfl) fun a hr => ?_
    by_cases c114 : r82.Done = true
    ·
     replace H := ifT c114 H
     refine opv (wgt hr (c114)) hr (pA b92 2) (by kernel_rfl) fun a hr => ?_
     refine ld (wgt hr (c114)) hr (.slice car85 r82.Holders.length ccr86) ((h.pick 1).cell 2 rfl) fun a hr => ?_
     refine opv (wgt hr (c114)) hr (vI ((r82.Holders.length : Nat) : Int)) (by kernel_rfl) fun a hr => ?_
     refine opv (wgt hr (c114)) hr (.slice car3 r1.length ccr4) (by kernel_rfl) fun a hr => ?_
     refine opv (wgt hr (c114)) hr (vI ((r1.length : Nat) : Int)) (by kernel_rfl) fun a hr => ?_
     refine opv (wgt hr (c114)) hr (vB (((r82.Holders.length : Nat) : Int) != ((r1.length : Nat) : Int))) (by kernel_rfl) fun a hr => ?_
     refine opv (wgt hr (bne_eq_false_iff_eq.mpr c113)) hr (vB (((r82.Holders.length : Nat) : Int) != ((r1.length : Nat) : Int))) (rp_t (b := r82.Done) rfl (by kernel_rfl) (c114) (by kernel_rfl)) fun a hr => ?_
     refine opv (wn rfl) hr (vB (((r82.Holders.length : Nat) : Int) != ((r1.length : Nat) : Int))) (rp_f (b := (((r82.Marks.length : Nat) : Int) != g104)) rfl (by kernel_rfl) (bne_eq_false_iff_eq.mpr c113) (by kernel_rfl)) fun a hr => ?_
     refine ln ?_
     by_cases c115 : ((r82.Holders.length : Nat) : Int) = ((r1.length : Nat) : Int)
     ·
      replace H := ifT c115 H
      refine cond_ff hr (bne_eq_false_iff_eq.mpr c115) ?_
      refine wp_skip ?_
      refine then_normal ?_
      replace hr := hr.fold2 [(5, .slice car3 r1.length ccr4), (6, pA b92 0), (8, vI g104)] (by kernel_rfl); obtain ⟨j, hr⟩ := hr
      exact ⟨(), sinj H, j, hr, h⟩
     ·
      replace H := ifF c115 H
      refine cond_tt hr (bne_iff_ne.mpr c115) ?_
      refine sr ?_
      refine o1 hr (vB false) fun a hr => ?_
      refine ln ?_
      refine wp_ret ?_
      refine then_ret ?_
      refine end_ret1 (v := vB false) rfl hr (by kernel_rfl) ?_
      replace H := jx0 H hK111
      replace h : Fit z (sepL (L)) _ := h.sel 6 [] (by kernel_rfl) (by kernel_rfl)
      replace H := ej1 H; subst H
      exact ⟨rfl, h⟩
    ·
     replace H := ifF c114 H
     refine offg (wgt hr (bF c114)) hr fun a hr => ?_
     refine offg (wgt hr (bF c114)) hr fun a hr => ?_
     refine offg (wgt hr (bF c114)) hr fun a hr => ?_
     refine offg (wgt hr (bF c114)) hr fun a hr => ?_
     refine offg (wgt hr (bF c114)) hr fun a hr => ?_
     refine offg (wgt hr (bF c114)) hr fun a hr => ?_
     refine opv (wgt hr (bne_eq_false_iff_eq.mpr c113)) hr (vB false) (rp_f (b := r82.Done) rfl (by kernel_rfl) (bF c114) (by kernel_rfl)) fun a hr => ?_
     refine opv (wn rfl) hr (vB false) (rp_f (b := (((r82.Marks.length : Nat) : Int) != g104)) rfl (by kernel_rfl) (bne_eq_false_iff_eq.mpr c113) (by kernel_rfl)) fun a hr => ?_
     refine ln ?_
     refine cond_ff hr (b := false) rfl ?_
     refine wp_skip ?_
     refine then_normal ?_
     replace hr := hr.fold2 [(5, .slice car3 r1.length ccr4), (6, pA b92 0), (8, vI g104)] (by kernel_rfl); obtain ⟨j, hr⟩ := hr
     exact ⟨(), sinj H, j, hr, h⟩
   ·
    replace H := ifF c113 H
    refine offg (wgt hr (bne_iff_ne.mpr c113)) hr fun a hr => ?_
    refine offg (wgt hr (bne_iff_ne.mpr c113)) hr fun a hr => ?_
    refine offg (wgt hr (bne_iff_ne.mpr c113)) hr fun a hr => ?_
    refine offg (wg_undef hr rfl rfl rfl (by kernel_rfl)) hr fun a hr => ?_
    refine offg (wg_undef hr rfl rfl rfl (by kernel_rfl)) hr fun a hr => ?_
    refine offg (wg_undef hr rfl rfl rfl (by kernel_rfl)) hr fun a hr => ?_
    refine offg (wg_undef hr rfl rfl rfl (by kernel_rfl)) hr fun a hr => ?_
    refine offg (wg_undef hr rfl rfl rfl (by kernel_rfl)) hr fun a hr => ?_
    refine offg (wg_undef hr rfl rfl rfl (by kernel_rfl)) hr fun a hr => ?_
    refine offg (wgt hr (bne_iff_ne.mpr c113)) hr fun a hr => ?_
    refine opv (wn rfl) hr (vB true) (rp_t (b := (((r82.Marks.length : Nat) : Int) != g104)) rfl (by kernel_rfl) (bne_iff_ne.mpr c113) (by kernel_rfl)) fun a hr => ?_
    refine ln ?_
    refine cond_tt hr (b := true) rfl ?_
    refine sr ?_
    refine o1 hr (vB false) fun a hr => ?_
    refine ln ?_
    refine wp_ret ?_
    refine then_ret ?_
    refine end_ret1 (v := vB false) rfl hr (by kernel_rfl) ?_
    replace H := jx0 H hK111
    replace h : Fit z (sepL (L)) _ := h.sel 6 [] (by kernel_rfl) (by kernel_rfl)
    replace H := ej1 H; subst H
    exact ⟨rfl, h⟩
  clear h hr a; rintro _ a w ⟨rfl, j, hr, h⟩
  replace H := jk0 hK111
  obtain ⟨o117, H, hK116⟩ := jd0 H
  refine cut_rule (β := Unit) (fun _ a w => .inl () = o117 ∧ ∃ j, Rep 179 (lk [(6, pA b92 0), (8, vI g104)] j) a ∧ Fit z (sepL (ob86 b92 r82 car85 ccr86 car87 ccr88 car89 ccr90 car91 r82.Log.length :: ro3 car85 ccr86 r82.Holders :: rn31 car87 ccr88 r82.Reads :: ro2 car89 ccr90 r82.Marks :: ro96 car91 r82.Log.length r82.Log :: L)) w) ?_ ?_
  ·
   refine sr ?_
   refine o1 hr (vI 0) fun a hr => ?_
   refine ln ?_
   refine wp_block ?_
   replace hr := hr.fold2 [(5, .slice car3 r1.length ccr4), (6, pA b92 0), (8, vI g104), (10, vI 0)] (by kernel_rfl); obtain ⟨j, hr⟩ := hr
   refine loop_rule (β := Nat) id (fun m a w => ∃ g118 : Int, (plunderlaw8_FramesSync_l6 K r1 r82 m g118) = some o117 ∧ ∃ j, Rep 179 (lk [(5, .slice car3 r1.length ccr4), (6, pA b92 0), (8, vI g104), (10, vI g118)] j) a ∧ Fit z (sepL (ro3 car3 ccr4 r1 :: ob86 b92 r82 car85 ccr86 car87 ccr88 car89 ccr90 car91 r82.Log.length :: ro3 car85 ccr86 r82.Holders :: rn31 car87 ccr88 r82.Reads :: ro2 car89 ccr90 r82.Marks :: ro96 car91 r82.Log.length r82.Log :: L)) w) K ⟨0, H, j, hr, h⟩ ?_
   clear h hr a H; rintro k6 a w ⟨g118, H, j, hr, h⟩
   cases k6 with
   | zero => exact absurd H (by simp [plunderlaw8_FramesSync_l6])
   | succ k6 =>
    rw [plunderlaw8_FramesSync_l6] at H
    refine wp_seq ?_
    refine sr ?_
    refine oo [81, 82] [vI g118, pA b92 3] hr fun a hr => ?_
    refine ld (wn rfl) hr (.slice car87 r82.Reads.length ccr88) ((h.pick 1).cell 3 rfl) fun a hr => ?_
    refine oo [84, 85] [vI ((r82.Reads.length : Nat) : Int), vB (decide (g118 < ((r82.Reads.length : Nat) : Int)))] hr fun a hr => ?_
    refine ln ?_
    by_cases c119 : g118 < ((r82.Reads.length : Nat) : Int)
    ·
     replace H := ifT c119 H
     refine cond_tt hr (decide_eq_true c119) ?_
     refine wp_skip ?_
     refine then_normal ?_
     obtain ⟨o124, H, hK123⟩ := jd3 H
     refine cut_rule (β := Unit) (fun _ a w => ∃ g120 : Bool, ∃ g121 : Bool, ∃ g122 : Bool, .inl (g120, g121, g122) = o124 ∧ ∃ j, Rep 179 (lk [(5, .slice car3 r1.length ccr4), (6, pA b92 0), (8, vI g104), (10, vI g118), (110, vB g120), (111, vB g121), (123, vB g122)] j) a ∧ Fit z (sepL (ro3 car3 ccr4 r1 :: ob86 b92 r82 car85 ccr86 car87 ccr88 car89 ccr90 car91 r82.Log.length :: ro3 car85 ccr86 r82.Holders :: rn31 car87 ccr88 r82.Reads :: ro2 car89 ccr90 r82.Marks :: ro96 car91 r82.Log.length r82.Log :: L)) w) ?_ ?_
     ·
      refine wp_block ?_
      obtain ⟨o127, H, hK126⟩ := kd1 H
      refine cut_rule (β := Unit) (fun _ a w => ∃ g125 : Bool, g125 = o127 ∧ ∃ j, Rep 179 (lk [(5, .slice car3 r1.length ccr4), (6, pA b92 0), (8, vI g104), (10, vI g118), (11, vB g125)] j) a ∧ Fit z (sepL (ro3 car3 ccr4 r1 :: ob86 b92 r82 car85 ccr86 car87 ccr88 car89 ccr90 car91 r82.Log.length :: ro3 car85 ccr86 r82.Holders :: rn31 car87 ccr88 r82.Reads :: ro2 car89 ccr90 r82.Marks :: ro96 car91 r82.Log.length r82.Log :: L)) w) ?_ ?_
      ·
       refine wp_region_lit ?_
       refine o1 hr (pA b92 0) fun a hr => ?_
       refine ld (wn rfl) hr (vB r82.Done) ((h.pick 1).cell 0 rfl) fun a hr => ?_
       refine o1 hr (vB r82.Done) fun a hr => ?_
       by_cases c128 : r82.Done = true
       ·
        replace H := ifT c128 H
        refine offg (wgt hr (c128)) hr fun a hr => ?_
        refine offg (wgt hr (c128)) hr fun a hr => ?_
        refine offg (wgt hr (c128)) hr fun a hr => ?_
        refine offg (wgt hr (c128)) hr fun a hr => ?_
        refine offg (wgt hr (c128)) hr fun a hr => ?_
        refine offg (wgt hr (c128)) hr fun a hr => ?_
        refine opv (wn rfl) hr (vB true) (rp_t (b := r82.Done) rfl (by kernel_rfl) (c128) (by kernel_rfl)) fun a hr => ?_
        refine o1 hr (vB true) fun a hr => ?_
        refine ln ?_
        replace hr := hr.fold2 [(5, .slice car3 r1.length ccr4), (6, pA b92 0), (8, vI g104), (10, vI g118), (11, vB true)] (by kernel_rfl); obtain ⟨j, hr⟩ := hr
        exact ⟨(), true, sinj H, j, hr, h⟩
       ·
        replace H := ifF c128 H
        refine opv (wgt hr (bF c128)) hr (vI g118) (by kernel_rfl) fun a hr => ?_
        refine opv (wgt hr (bF c128)) hr (vI (wi (g118 + 1))) (by kernel_rfl) fun a hr => ?_
        refine opv (wgt hr (bF c128)) hr (pA b92 3) (by kernel_rfl) fun a hr => ?_
        refine ld (wgt hr (bF c128)) hr (.slice car87 r82.Reads.length ccr88) ((h.pick 1).cell 3 rfl) fun a hr => ?_
        refine opv (wgt hr (bF c128)) hr (vI ((r82.Reads.length : Nat) : Int)) (by kernel_rfl) fun a hr => ?_
        refine opv (wgt hr (bF c128)) hr (vB (decide ((wi (g118 + 1)) < ((r82.Reads.length : Nat) : Int)))) (by kernel_rfl) fun a hr => ?_
        refine opv (wn rfl) hr (vB (decide ((wi (g118 + 1)) < ((r82.Reads.length : Nat) : Int)))) (rp_f (b := r82.Done) rfl (by kernel_rfl) (bF c128) (by kernel_rfl)) fun a hr => ?_
        refine o1 hr (vB (decide ((wi (g118 + 1)) < ((r82.Reads.length : Nat) : Int)))) fun a hr => ?_
        refine ln ?_
        replace hr := hr.fold2 [(5, .slice car3 r1.length ccr4), (6, pA b92 0), (8, vI g104), (10, vI g118), (11, vB (decide ((wi (g118 + 1)) < ((r82.Reads.length : Nat) : Int))))] (by kernel_rfl); obtain ⟨j, hr⟩ := hr
        exact ⟨(), (decide ((wi (g118 + 1)) < ((r82.Reads.length : Nat) : Int))), sinj H, j, hr, h⟩
      clear h hr a; rintro _ a w ⟨g125, rfl, j, hr, h⟩
      replace H := kk1 hK126
      obtain ⟨o131, H, hK130⟩ := jd1 H
      refine cut_rule (β := Unit) (fun _ a w => ∃ g129 : Bool, .inl g129 = o131 ∧ ∃ j, Rep 179 (lk [(5, .slice car3 r1.length ccr4), (6, pA b92 0), (8, vI g104), (10, vI g118), (110, vB g125), (111, vB g125), (123, vB g129)] j) a ∧ Fit z (sepL (ro3 car3 ccr4 r1 :: ob86 b92 r82 car85 ccr86 car87 ccr88 car89 ccr90 car91 r82.Log.length :: ro3 car85 ccr86 r82.Holders :: rn31 car87 ccr88 r82.Reads :: ro2 car89 ccr90 r82.Marks :: ro96 car91 r82.Log.length r82.Log :: L)) w) ?_ ?_
      ·
       refine wp_seq ?_
       obtain ⟨c132, H⟩ := gd H
       obtain ⟨cs136, h⟩ := (h.pick 3).rowN_take (at_ok c132)
       obtain ⟨ca133, cc134, e135, h⟩ := own_sl31_op (h.pick 1); subst e135
       replace h : Fit z (sepL (ro2 ca133 cc134 (at_ r82.Reads g118.toNat) :: rowH 31 1 own_sl31 (.slice car87 r82.Reads.length ccr88) r82.Reads g118.toNat [.slice ca133 (at_ r82.Reads g118.toNat).length cc134] :: ro3 car3 ccr4 r1 :: ob86 b92 r82 car85 ccr86 car87 ccr88 car89 ccr90 car91 r82.Log.length :: ro3 car85 ccr86 r82.Holders :: ro2 car89 ccr90 r82.Marks :: ro96 car91 r82.Log.length r82.Log :: L)) _ := h
       obtain ⟨c137, H⟩ := gd H
       by_cases c138 : (((at_ r82.Reads g118.toNat).length : Nat) : Int) > (at_ r1 g118.toNat)
       ·
        replace H := ifT c138 H
        refine reg_E (fun w => heldC w b92 3 ([.slice car87 r82.Reads.length ccr88]) ∧ heldC w (blk car87) (g118.toNat * 1) ([.slice ca133 (at_ r82.Reads g118.toNat).length cc134]) ∧ heldC w (blk car3) (g118.toNat * 1) ([vI (at_ r1 g118.toNat)]) ∧ True) [0, 3, 5, 8] h (by kernel_rfl) ?_; intro w h
        change wpAnyE _ _ _ _ _ _ 27 (Array.replicate 27 false) a w
        have hgo : ∀ w w', CellsGo w w' → (heldC w b92 3 ([.slice car87 r82.Reads.length ccr88]) ∧ heldC w (blk car87) (g118.toNat * 1) ([.slice ca133 (at_ r82.Reads g118.toNat).length cc134]) ∧ heldC w (blk car3) (g118.toNat * 1) ([vI (at_ r1 g118.toNat)]) ∧ True) → heldC w' b92 3 ([.slice car87 r82.Reads.length ccr88]) ∧ heldC w' (blk car87) (g118.toNat * 1) ([.slice ca133 (at_ r82.Reads g118.toNat).length cc134]) ∧ heldC w' (blk car3) (g118.toNat * 1) ([vI (at_ r1 g118.toNat)]) ∧ True := fun w w' g hD => ⟨heldC_go _ _ _ _ _ g hD.1, heldC_go _ _ _ _ _ g hD.2.1, heldC_go _ _ _ _ _ g hD.2.2.1, trivial⟩
        refine evDs hgo ⟨⟨(h.pick 3).cell 3 rfl, trivial⟩, ⟨(h.pick 1).rowH_cell (by decide) (f := 0) rfl, trivial⟩, ⟨(h.pick 2).row_cell encZ_i64_ok (f := 0) (at_ok c137) rfl, trivial⟩, trivial⟩ 26 0 rfl (wn rfl) hr (pA b92 3) fun a hr => ?_
        refine evs 25 2 rfl (wn rfl) hr (vI g118) fun a hr => ?_
        refine evs 24 6 rfl (wn rfl) hr (.slice car3 r1.length ccr4) fun a hr => ?_
        refine evs 23 7 rfl (wn rfl) hr (vI g118) fun a hr => ?_
        refine evD hgo ⟨⟨(h.pick 3).cell 3 rfl, trivial⟩, ⟨(h.pick 1).rowH_cell (by decide) (f := 0) rfl, trivial⟩, ⟨(h.pick 2).row_cell encZ_i64_ok (f := 0) (at_ok c137) rfl, trivial⟩, trivial⟩ 22 8 rfl (by kernel_rfl) (wn rfl) hr (pA (blk car3) (g118.toNat * 1)) (fun w => ri_row (k := .i64) (E := 3) rfl (by kernel_rfl) (by kernel_rfl) (by kernel_rfl) (by kernel_rfl) (h.pick 2) c137) fun a hr => ?_
        refine el [0, 3, 5, 8] (b := b92) (off := 3) (cs := [.slice car87 r82.Reads.length ccr88]) (fun _ hk => ⟨hk, fun w hD => hD.1⟩) 21 1 rfl (by kernel_rfl) (wn rfl) hr (.slice car87 r82.Reads.length ccr88) ⟨(h.pick 3).cell 3 rfl, trivial⟩ (fun w hc => rl rfl (by kernel_rfl) (by kernel_rfl) hc.1) fun a hr => ?_
        refine evD hgo ⟨⟨(h.pick 3).cell 3 rfl, trivial⟩, ⟨(h.pick 1).rowH_cell (by decide) (f := 0) rfl, trivial⟩, ⟨(h.pick 2).row_cell encZ_i64_ok (f := 0) (at_ok c137) rfl, trivial⟩, trivial⟩ 20 3 rfl (by kernel_rfl) (wn rfl) hr (pA (blk car87) (g118.toNat * 1)) (fun w => ri_rowH (k := .i64) (E := 31) rfl (by kernel_rfl) (by kernel_rfl) (by kernel_rfl) (by kernel_rfl) (h.pick 1) c132) fun a hr => ?_
        refine el [0, 3, 5, 8] (b := blk car87) (off := g118.toNat * 1) (cs := [.slice ca133 (at_ r82.Reads g118.toNat).length cc134]) (fun _ hk => ⟨hk, fun w hD => hD.2.1⟩) 19 4 rfl (by kernel_rfl) (wn rfl) hr (.slice ca133 (at_ r82.Reads g118.toNat).length cc134) ⟨(h.pick 1).rowH_cell (by decide) (f := 0) rfl, trivial⟩ (fun w hc => rl rfl (by kernel_rfl) (by kernel_rfl) hc.1) fun a hr => ?_
        refine evDs hgo ⟨⟨(h.pick 3).cell 3 rfl, trivial⟩, ⟨(h.pick 1).rowH_cell (by decide) (f := 0) rfl, trivial⟩, ⟨(h.pick 2).row_cell encZ_i64_ok (f := 0) (at_ok c137) rfl, trivial⟩, trivial⟩ 18 5 rfl (wn rfl) hr (vI (((at_ r82.Reads g118.toNat).length : Nat) : Int)) fun a hr => ?_
        refine el [0, 3, 5, 8] (b := blk car3) (off := g118.toNat * 1) (cs := [vI (at_ r1 g118.toNat)]) (fun _ hk => ⟨hk, fun w hD => hD.2.2.1⟩) 17 9 rfl (by kernel_rfl) (wn rfl) hr (vI (at_ r1 g118.toNat)) ⟨(h.pick 2).row_cell encZ_i64_ok (f := 0) (at_ok c137) rfl, trivial⟩ (fun w hc => rl rfl (by kernel_rfl) (by kernel_rfl) hc.1) fun a hr => ?_
        refine evs 16 10 rfl (wn rfl) hr (vB (decide ((((at_ r82.Reads g118.toNat).length : Nat) : Int) > (at_ r1 g118.toNat)))) fun a hr => ?_
        refine evs 15 11 rfl (wn rfl) hr (vB (decide ((((at_ r82.Reads g118.toNat).length : Nat) : Int) > (at_ r1 g118.toNat)))) fun a hr => ?_
        refine eos 14 12 rfl (wgt hr (decide_eq_true c138)) hr fun a hr => ?_
        refine eos 13 13 rfl (wgt hr (decide_eq_true c138)) hr fun a hr => ?_
        refine eos 12 14 rfl (wg_undef hr rfl rfl rfl (by kernel_rfl)) hr fun a hr => ?_
        refine eos 11 16 rfl (wg_undef hr rfl rfl rfl (by kernel_rfl)) hr fun a hr => ?_
        refine eos 10 20 rfl (wg_undef hr rfl rfl rfl (by kernel_rfl)) hr fun a hr => ?_
        refine eos 9 21 rfl (wg_undef hr rfl rfl rfl (by kernel_rfl)) hr fun a hr => ?_
        refine eos 8 22 rfl (wg_undef hr rfl rfl rfl (by kernel_rfl)) hr fun a hr => ?_
        refine eos 7 15 rfl (wg_undef hr rfl rfl rfl (by kernel_rfl)) hr fun a hr => ?_
        refine eos 6 17 rfl (wg_undef hr rfl rfl rfl (by kernel_rfl)) hr fun a hr => ?_
        refine eos 5 18 rfl (wg_undef hr rfl rfl rfl (by kernel_rfl)) hr fun a hr => ?_
        refine eos 4 19 rfl (wg_undef hr rfl rfl rfl (by kernel_rfl)) hr fun a hr => ?_
        refine eos 3 23 rfl (wg_undef hr rfl rfl rfl (by kernel_rfl)) hr fun a hr => ?_
        refine eos 2 24 rfl (wg_undef hr rfl rfl rfl (by kernel_rfl)) hr fun a hr => ?_
        refine eos 1 25 rfl (wgt hr (decide_eq_true c138)) hr fun a hr => ?_
        refine ev 0 26 rfl (by kernel_rfl) (wn rfl) hr (vB true) (fun w => rp_t (b := (decide ((((at_ r82.Reads g118.toNat).length : Nat) : Int) > (at_ r1 g118.toNat)))) rfl (by kernel_rfl) (decide_eq_true c138) (by kernel_rfl)) fun a hr => ?_
        refine e_end (by kernel_rfl) ?_
        refine then_normal ?_
        refine cond_tt hr (b := true) rfl ?_
        refine sr ?_
        refine o1 hr (vB false) fun a hr => ?_
        refine ln ?_
        refine wp_ret ?_
        refine then_ret ?_
        refine blk_ret ?_
        refine then_ret ?_
        refine then_ret ?_
        refine blk_ret ?_
        refine then_ret ?_
        refine end_ret1 (v := vB false) rfl hr (by kernel_rfl) ?_
        replace h := own_sl31_sh (x := (at_ r82.Reads g118.toNat)) h
        replace h : Fit z (sepL (rn31 car87 ccr88 r82.Reads :: ro3 car3 ccr4 r1 :: ob86 b92 r82 car85 ccr86 car87 ccr88 car89 ccr90 car91 r82.Log.length :: ro3 car85 ccr86 r82.Holders :: ro2 car89 ccr90 r82.Marks :: ro96 car91 r82.Log.length r82.Log :: L)) _ := Fit.rowH_same (h.pick 1)
        replace H := jx1 H hK130
        replace H := jx3 H hK123
        replace H := jx0 H hK116
        replace h : Fit z (sepL (L)) _ := h.sel 6 [] (by kernel_rfl) (by kernel_rfl)
        replace H := ej1 H; subst H
        exact ⟨rfl, h⟩
       ·
        replace H := ifF c138 H
        by_cases c139 : g125 = true
        ·
         replace H := ifT c139 H
         refine reg_E (fun w => heldC w b92 3 ([.slice car87 r82.Reads.length ccr88]) ∧ heldC w (blk car87) (g118.toNat * 1) ([.slice ca133 (at_ r82.Reads g118.toNat).length cc134]) ∧ heldC w (blk car3) (g118.toNat * 1) ([vI (at_ r1 g118.toNat)]) ∧ heldC w b92 3 ([.slice car87 r82.Reads.length ccr88]) ∧ heldC w (blk car87) (g118.toNat * 1) ([.slice ca133 (at_ r82.Reads g118.toNat).length cc134]) ∧ heldC w (blk car3) (g118.toNat * 1) ([vI (at_ r1 g118.toNat)]) ∧ True) [0, 3, 5, 8, 10, 14, 17, 19, 22] h (by kernel_rfl) ?_; intro w h
         change wpAnyE _ _ _ _ _ _ 27 (Array.replicate 27 false) a w
         have hgo : ∀ w w', CellsGo w w' → (heldC w b92 3 ([.slice car87 r82.Reads.length ccr88]) ∧ heldC w (blk car87) (g118.toNat * 1) ([.slice ca133 (at_ r82.Reads g118.toNat).length cc134]) ∧ heldC w (blk car3) (g118.toNat * 1) ([vI (at_ r1 g118.toNat)]) ∧ heldC w b92 3 ([.slice car87 r82.Reads.length ccr88]) ∧ heldC w (blk car87) (g118.toNat * 1) ([.slice ca133 (at_ r82.Reads g118.toNat).length cc134]) ∧ heldC w (blk car3) (g118.toNat * 1) ([vI (at_ r1 g118.toNat)]) ∧ True) → heldC w' b92 3 ([.slice car87 r82.Reads.length ccr88]) ∧ heldC w' (blk car87) (g118.toNat * 1) ([.slice ca133 (at_ r82.Reads g118.toNat).length cc134]) ∧ heldC w' (blk car3) (g118.toNat * 1) ([vI (at_ r1 g118.toNat)]) ∧ heldC w' b92 3 ([.slice car87 r82.Reads.length ccr88]) ∧ heldC w' (blk car87) (g118.toNat * 1) ([.slice ca133 (at_ r82.Reads g118.toNat).length cc134]) ∧ heldC w' (blk car3) (g118.toNat * 1) ([vI (at_ r1 g118.toNat)]) ∧ True := fun w w' g hD => ⟨heldC_go _ _ _ _ _ g hD.1, heldC_go _ _ _ _ _ g hD.2.1, heldC_go _ _ _ _ _ g hD.2.2.1, heldC_go _ _ _ _ _ g hD.2.2.2.1, heldC_go _ _ _ _ _ g hD.2.2.2.2.1, heldC_go _ _ _ _ _ g hD.2.2.2.2.2.1, trivial⟩
         refine evDs hgo ⟨⟨(h.pick 3).cell 3 rfl, trivial⟩, ⟨(h.pick 1).rowH_cell (by decide) (f := 0) rfl, trivial⟩, ⟨(h.pick 2).row_cell encZ_i64_ok (f := 0) (at_ok c137) rfl, trivial⟩, ⟨(h.pick 3).cell 3 rfl, trivial⟩, ⟨(h.pick 1).rowH_cell (by decide) (f := 0) rfl, trivial⟩, ⟨(h.pick 2).row_cell encZ_i64_ok (f := 0) (at_ok c137) rfl, trivial⟩, trivial⟩ 26 0 rfl (wn rfl) hr (pA b92 3) fun a hr => ?_
         refine evs 25 2 rfl (wn rfl) hr (vI g118) fun a hr => ?_
         refine evs 24 6 rfl (wn rfl) hr (.slice car3 r1.length ccr4) fun a hr => ?_
         refine evs 23 7 rfl (wn rfl) hr (vI g118) fun a hr => ?_
         refine evD hgo ⟨⟨(h.pick 3).cell 3 rfl, trivial⟩, ⟨(h.pick 1).rowH_cell (by decide) (f := 0) rfl, trivial⟩, ⟨(h.pick 2).row_cell encZ_i64_ok (f := 0) (at_ok c137) rfl, trivial⟩, ⟨(h.pick 3).cell 3 rfl, trivial⟩, ⟨(h.pick 1).rowH_cell (by decide) (f := 0) rfl, trivial⟩, ⟨(h.pick 2).row_cell encZ_i64_ok (f := 0) (at_ok c137) rfl, trivial⟩, trivial⟩ 22 8 rfl (by kernel_rfl) (wn rfl) hr (pA (blk car3) (g118.toNat * 1)) (fun w => ri_row (k := .i64) (E := 3) rfl (by kernel_rfl) (by kernel_rfl) (by kernel_rfl) (by kernel_rfl) (h.pick 2) c137) fun a hr => ?_
         refine el [0, 3, 5, 8, 10, 14, 17, 19, 22] (b := b92) (off := 3) (cs := [.slice car87 r82.Reads.length ccr88]) (fun _ hk => ⟨hk, fun w hD => hD.1⟩) 21 1 rfl (by kernel_rfl) (wn rfl) hr (.slice car87 r82.Reads.length ccr88) ⟨(h.pick 3).cell 3 rfl, trivial⟩ (fun w hc => rl rfl (by kernel_rfl) (by kernel_rfl) hc.1) fun a hr => ?_
         refine evD hgo ⟨⟨(h.pick 3).cell 3 rfl, trivial⟩, ⟨(h.pick 1).rowH_cell (by decide) (f := 0) rfl, trivial⟩, ⟨(h.pick 2).row_cell encZ_i64_ok (f := 0) (at_ok c137) rfl, trivial⟩, ⟨(h.pick 3).cell 3 rfl, trivial⟩, ⟨(h.pick 1).rowH_cell (by decide) (f := 0) rfl, trivial⟩, ⟨(h.pick 2).row_cell encZ_i64_ok (f := 0) (at_ok c137) rfl, trivial⟩, trivial⟩ 20 3 rfl (by kernel_rfl) (wn rfl) hr (pA (blk car87) (g118.toNat * 1)) (fun w => ri_rowH (k := .i64) (E := 31) rfl (by kernel_rfl) (by kernel_rfl) (by kernel_rfl) (by kernel_rfl) (h.pick 1) c132) fun a hr => ?_
         refine el [0, 3, 5, 8, 10, 14, 17, 19, 22] (b := blk car87) (off := g118.toNat * 1) (cs := [.slice ca133 (at_ r82.Reads g118.toNat).length cc134]) (fun _ hk => ⟨hk, fun w hD => hD.2.1⟩) 19 4 rfl (by kernel_rfl) (wn rfl) hr (.slice ca133 (at_ r82.Reads g118.toNat).length cc134) ⟨(h.pick 1).rowH_cell (by decide) (f := 0) rfl, trivial⟩ (fun w hc => rl rfl (by kernel_rfl) (by kernel_rfl) hc.1) fun a hr => ?_
         refine evDs hgo ⟨⟨(h.pick 3).cell 3 rfl, trivial⟩, ⟨(h.pick 1).rowH_cell (by decide) (f := 0) rfl, trivial⟩, ⟨(h.pick 2).row_cell encZ_i64_ok (f := 0) (at_ok c137) rfl, trivial⟩, ⟨(h.pick 3).cell 3 rfl, trivial⟩, ⟨(h.pick 1).rowH_cell (by decide) (f := 0) rfl, trivial⟩, ⟨(h.pick 2).row_cell encZ_i64_ok (f := 0) (at_ok c137) rfl, trivial⟩, trivial⟩ 18 5 rfl (wn rfl) hr (vI (((at_ r82.Reads g118.toNat).length : Nat) : Int)) fun a hr => ?_
         refine el [0, 3, 5, 8, 10, 14, 17, 19, 22] (b := blk car3) (off := g118.toNat * 1) (cs := [vI (at_ r1 g118.toNat)]) (fun _ hk => ⟨hk, fun w hD => hD.2.2.1⟩) 17 9 rfl (by kernel_rfl) (wn rfl) hr (vI (at_ r1 g118.toNat)) ⟨(h.pick 2).row_cell encZ_i64_ok (f := 0) (at_ok c137) rfl, trivial⟩ (fun w hc => rl rfl (by kernel_rfl) (by kernel_rfl) hc.1) fun a hr => ?_
         refine evDs hgo ⟨⟨(h.pick 3).cell 3 rfl, trivial⟩, ⟨(h.pick 1).rowH_cell (by decide) (f := 0) rfl, trivial⟩, ⟨(h.pick 2).row_cell encZ_i64_ok (f := 0) (at_ok c137) rfl, trivial⟩, ⟨(h.pick 3).cell 3 rfl, trivial⟩, ⟨(h.pick 1).rowH_cell (by decide) (f := 0) rfl, trivial⟩, ⟨(h.pick 2).row_cell encZ_i64_ok (f := 0) (at_ok c137) rfl, trivial⟩, trivial⟩ 16 10 rfl (wn rfl) hr (vB (decide ((((at_ r82.Reads g118.toNat).length : Nat) : Int) > (at_ r1 g118.toNat)))) fun a hr => ?_
         refine evs 15 11 rfl (wn rfl) hr (vB (decide ((((at_ r82.Reads g118.toNat).length : Nat) : Int) > (at_ r1 g118.toNat)))) fun a hr => ?_
         refine evs 14 12 rfl (wgt hr (decide_eq_false c138)) hr (vB g125) fun a hr => ?_
         refine evs 13 13 rfl (wgt hr (decide_eq_false c138)) hr (vB g125) fun a hr => ?_
         refine evDs hgo ⟨⟨(h.pick 3).cell 3 rfl, trivial⟩, ⟨(h.pick 1).rowH_cell (by decide) (f := 0) rfl, trivial⟩, ⟨(h.pick 2).row_cell encZ_i64_ok (f := 0) (at_ok c137) rfl, trivial⟩, ⟨(h.pick 3).cell 3 rfl, trivial⟩, ⟨(h.pick 1).rowH_cell (by decide) (f := 0) rfl, trivial⟩, ⟨(h.pick 2).row_cell encZ_i64_ok (f := 0) (at_ok c137) rfl, trivial⟩, trivial⟩ 12 14 rfl (wgt hr (c139)) hr (pA b92 3) fun a hr => ?_
         refine evs 11 16 rfl (wgt hr (c139)) hr (vI g118) fun a hr => ?_
         refine evs 10 20 rfl (wgt hr (c139)) hr (.slice car3 r1.length ccr4) fun a hr => ?_
         refine evs 9 21 rfl (wgt hr (c139)) hr (vI g118) fun a hr => ?_
         refine evD hgo ⟨⟨(h.pick 3).cell 3 rfl, trivial⟩, ⟨(h.pick 1).rowH_cell (by decide) (f := 0) rfl, trivial⟩, ⟨(h.pick 2).row_cell encZ_i64_ok (f := 0) (at_ok c137) rfl, trivial⟩, ⟨(h.pick 3).cell 3 rfl, trivial⟩, ⟨(h.pick 1).rowH_cell (by decide) (f := 0) rfl, trivial⟩, ⟨(h.pick 2).row_cell encZ_i64_ok (f := 0) (at_ok c137) rfl, trivial⟩, trivial⟩ 8 22 rfl (by kernel_rfl) (wgt hr (c139)) hr (pA (blk car3) (g118.toNat * 1)) (fun w => ri_row (k := .i64) (E := 3) rfl (by kernel_rfl) (by kernel_rfl) (by kernel_rfl) (by kernel_rfl) (h.pick 2) c137) fun a hr => ?_
         refine el [0, 3, 5, 8, 10, 14, 17, 19, 22] (b := b92) (off := 3) (cs := [.slice car87 r82.Reads.length ccr88]) (fun _ hk => ⟨hk, fun w hD => hD.2.2.2.1⟩) 7 15 rfl (by kernel_rfl) (wgt hr (c139)) hr (.slice car87 r82.Reads.length ccr88) ⟨(h.pick 3).cell 3 rfl, trivial⟩ (fun w hc => rl rfl (by kernel_rfl) (by kernel_rfl) hc.1) fun a hr => ?_
         refine evD hgo ⟨⟨(h.pick 3).cell 3 rfl, trivial⟩, ⟨(h.pick 1).rowH_cell (by decide) (f := 0) rfl, trivial⟩, ⟨(h.pick 2).row_cell encZ_i64_ok (f := 0) (at_ok c137) rfl, trivial⟩, ⟨(h.pick 3).cell 3 rfl, trivial⟩, ⟨(h.pick 1).rowH_cell (by decide) (f := 0) rfl, trivial⟩, ⟨(h.pick 2).row_cell encZ_i64_ok (f := 0) (at_ok c137) rfl, trivial⟩, trivial⟩ 6 17 rfl (by kernel_rfl) (wgt hr (c139)) hr (pA (blk car87) (g118.toNat * 1)) (fun w => ri_rowH (k := .i64) (E := 31) rfl (by kernel_rfl) (by kernel_rfl) (by kernel_rfl) (by kernel_rfl) (h.pick 1) c132) fun a hr => ?_
         refine el [0, 3, 5, 8, 10, 14, 17, 19, 22] (b := blk car87) (off := g118.toNat * 1) (cs := [.slice ca133 (at_ r82.Reads g118.toNat).length cc134]) (fun _ hk => ⟨hk, fun w hD => hD.2.2.2.2.1⟩) 5 18 rfl (by kernel_rfl) (wgt hr (c139)) hr (.slice ca133 (at_ r82.Reads g118.toNat).length cc134) ⟨(h.pick 1).rowH_cell (by decide) (f := 0) rfl, trivial⟩ (fun w hc => rl rfl (by kernel_rfl) (by kernel_rfl) hc.1) fun a hr => ?_
         refine evDs hgo ⟨⟨(h.pick 3).cell 3 rfl, trivial⟩, ⟨(h.pick 1).rowH_cell (by decide) (f := 0) rfl, trivial⟩, ⟨(h.pick 2).row_cell encZ_i64_ok (f := 0) (at_ok c137) rfl, trivial⟩, ⟨(h.pick 3).cell 3 rfl, trivial⟩, ⟨(h.pick 1).rowH_cell (by decide) (f := 0) rfl, trivial⟩, ⟨(h.pick 2).row_cell encZ_i64_ok (f := 0) (at_ok c137) rfl, trivial⟩, trivial⟩ 4 19 rfl (wgt hr (c139)) hr (vI (((at_ r82.Reads g118.toNat).length : Nat) : Int)) fun a hr => ?_
         refine el [0, 3, 5, 8, 10, 14, 17, 19, 22] (b := blk car3) (off := g118.toNat * 1) (cs := [vI (at_ r1 g118.toNat)]) (fun _ hk => ⟨hk, fun w hD => hD.2.2.2.2.2.1⟩) 3 23 rfl (by kernel_rfl) (wgt hr (c139)) hr (vI (at_ r1 g118.toNat)) ⟨(h.pick 2).row_cell encZ_i64_ok (f := 0) (at_ok c137) rfl, trivial⟩ (fun w hc => rl rfl (by kernel_rfl) (by kernel_rfl) hc.1) fun a hr => ?_
         refine evs 2 24 rfl (wgt hr (c139)) hr (vB ((((at_ r82.Reads g118.toNat).length : Nat) : Int) != (at_ r1 g118.toNat))) fun a hr => ?_
         refine ev 1 25 rfl (by kernel_rfl) (wgt hr (decide_eq_false c138)) hr (vB ((((at_ r82.Reads g118.toNat).length : Nat) : Int) != (at_ r1 g118.toNat))) (fun w => rp_t (b := g125) rfl (by kernel_rfl) (c139) (by kernel_rfl)) fun a hr => ?_
         refine ev 0 26 rfl (by kernel_rfl) (wn rfl) hr (vB ((((at_ r82.Reads g118.toNat).length : Nat) : Int) != (at_ r1 g118.toNat))) (fun w => rp_f (b := (decide ((((at_ r82.Reads g118.toNat).length : Nat) : Int) > (at_ r1 g118.toNat)))) rfl (by kernel_rfl) (decide_eq_false c138) (by kernel_rfl)) fun a hr => ?_
         refine e_end (by kernel_rfl) ?_
         refine then_normal ?_
         by_cases c140 : (((at_ r82.Reads g118.toNat).length : Nat) : Int) = (at_ r1 g118.toNat)
         ·
          replace H := ifT c140 H
          refine cond_ff hr (bne_eq_false_iff_eq.mpr c140) ?_
          refine wp_skip ?_
          refine then_normal ?_
          replace h := own_sl31_sh (x := (at_ r82.Reads g118.toNat)) h
          replace h : Fit z (sepL (rn31 car87 ccr88 r82.Reads :: ro3 car3 ccr4 r1 :: ob86 b92 r82 car85 ccr86 car87 ccr88 car89 ccr90 car91 r82.Log.length :: ro3 car85 ccr86 r82.Holders :: ro2 car89 ccr90 r82.Marks :: ro96 car91 r82.Log.length r82.Log :: L)) _ := Fit.rowH_same (h.pick 1)
          replace hr := hr.fold2 [(5, .slice car3 r1.length ccr4), (6, pA b92 0), (8, vI g104), (10, vI g118), (110, vB g125), (111, vB g125), (123, vB ((((at_ r82.Reads g118.toNat).length : Nat) : Int) != (at_ r1 g118.toNat)))] (by kernel_rfl); obtain ⟨j, hr⟩ := hr
          replace h : Fit z (sepL (ro3 car3 ccr4 r1 :: ob86 b92 r82 car85 ccr86 car87 ccr88 car89 ccr90 car91 r82.Log.length :: ro3 car85 ccr86 r82.Holders :: rn31 car87 ccr88 r82.Reads :: ro2 car89 ccr90 r82.Marks :: ro96 car91 r82.Log.length r82.Log :: L)) _ := h.sel 6 [1, 2, 3, 0, 4, 5] (by kernel_rfl) (by kernel_rfl)
          exact ⟨(), ((((at_ r82.Reads g118.toNat).length : Nat) : Int) != (at_ r1 g118.toNat)), sinj H, j, hr, h⟩
         ·
          replace H := ifF c140 H
          refine cond_tt hr (bne_iff_ne.mpr c140) ?_
          refine sr ?_
          refine o1 hr (vB false) fun a hr => ?_
          refine ln ?_
          refine wp_ret ?_
          refine then_ret ?_
          refine blk_ret ?_
          refine then_ret ?_
          refine then_ret ?_
          refine blk_ret ?_
          refine then_ret ?_
          refine end_ret1 (v := vB false) rfl hr (by kernel_rfl) ?_
          replace h := own_sl31_sh (x := (at_ r82.Reads g118.toNat)) h
          replace h : Fit z (sepL (rn31 car87 ccr88 r82.Reads :: ro3 car3 ccr4 r1 :: ob86 b92 r82 car85 ccr86 car87 ccr88 car89 ccr90 car91 r82.Log.length :: ro3 car85 ccr86 r82.Holders :: ro2 car89 ccr90 r82.Marks :: ro96 car91 r82.Log.length r82.Log :: L)) _ := Fit.rowH_same (h.pick 1)
          replace H := jx1 H hK130
          replace H := jx3 H hK123
          replace H := jx0 H hK116
          replace h : Fit z (sepL (L)) _ := h.sel 6 [] (by kernel_rfl) (by kernel_rfl)
          replace H := ej1 H; subst H
          exact ⟨rfl, h⟩
        ·
         replace H := ifF c139 H
         refine reg_E (fun w => heldC w b92 3 ([.slice car87 r82.Reads.length ccr88]) ∧ heldC w (blk car87) (g118.toNat * 1) ([.slice ca133 (at_ r82.Reads g118.toNat).length cc134]) ∧ heldC w (blk car3) (g118.toNat * 1) ([vI (at_ r1 g118.toNat)]) ∧ True) [0, 3, 5, 8] h (by kernel_rfl) ?_; intro w h
         change wpAnyE _ _ _ _ _ _ 27 (Array.replicate 27 false) a w
         have hgo : ∀ w w', CellsGo w w' → (heldC w b92 3 ([.slice car87 r82.Reads.length ccr88]) ∧ heldC w (blk car87) (g118.toNat * 1) ([.slice ca133 (at_ r82.Reads g118.toNat).length cc134]) ∧ heldC w (blk car3) (g118.toNat * 1) ([vI (at_ r1 g118.toNat)]) ∧ True) → heldC w' b92 3 ([.slice car87 r82.Reads.length ccr88]) ∧ heldC w' (blk car87) (g118.toNat * 1) ([.slice ca133 (at_ r82.Reads g118.toNat).length cc134]) ∧ heldC w' (blk car3) (g118.toNat * 1) ([vI (at_ r1 g118.toNat)]) ∧ True := fun w w' g hD => ⟨heldC_go _ _ _ _ _ g hD.1, heldC_go _ _ _ _ _ g hD.2.1, heldC_go _ _ _ _ _ g hD.2.2.1, trivial⟩
         refine evDs hgo ⟨⟨(h.pick 3).cell 3 rfl, trivial⟩, ⟨(h.pick 1).rowH_cell (by decide) (f := 0) rfl, trivial⟩, ⟨(h.pick 2).row_cell encZ_i64_ok (f := 0) (at_ok c137) rfl, trivial⟩, trivial⟩ 26 0 rfl (wn rfl) hr (pA b92 3) fun a hr => ?_
         refine evs 25 2 rfl (wn rfl) hr (vI g118) fun a hr => ?_
         refine evs 24 6 rfl (wn rfl) hr (.slice car3 r1.length ccr4) fun a hr => ?_
         refine evs 23 7 rfl (wn rfl) hr (vI g118) fun a hr => ?_
         refine evD hgo ⟨⟨(h.pick 3).cell 3 rfl, trivial⟩, ⟨(h.pick 1).rowH_cell (by decide) (f := 0) rfl, trivial⟩, ⟨(h.pick 2).row_cell encZ_i64_ok (f := 0) (at_ok c137) rfl, trivial⟩, trivial⟩ 22 8 rfl (by kernel_rfl) (wn rfl) hr (pA (blk car3) (g118.toNat * 1)) (fun w => ri_row (k := .i64) (E := 3) rfl (by kernel_rfl) (by kernel_rfl) (by kernel_rfl) (by kernel_rfl) (h.pick 2) c137) fun a hr => ?_
         refine el [0, 3, 5, 8] (b := b92) (off := 3) (cs := [.slice car87 r82.Reads.length ccr88]) (fun _ hk => ⟨hk, fun w hD => hD.1⟩) 21 1 rfl (by kernel_rfl) (wn rfl) hr (.slice car87 r82.Reads.length ccr88) ⟨(h.pick 3).cell 3 rfl, trivial⟩ (fun w hc => rl rfl (by kernel_rfl) (by kernel_rfl) hc.1) fun a hr => ?_
         refine evD hgo ⟨⟨(h.pick 3).cell 3 rfl, trivial⟩, ⟨(h.pick 1).rowH_cell (by decide) (f := 0) rfl, trivial⟩, ⟨(h.pick 2).row_cell encZ_i64_ok (f := 0) (at_ok c137) rfl, trivial⟩, trivial⟩ 20 3 rfl (by kernel_rfl) (wn rfl) hr (pA (blk car87) (g118.toNat * 1)) (fun w => ri_rowH (k := .i64) (E := 31) rfl (by kernel_rfl) (by kernel_rfl) (by kernel_rfl) (by kernel_rfl) (h.pick 1) c132) fun a hr => ?_
         refine el [0, 3, 5, 8] (b := blk car87) (off := g118.toNat * 1) (cs := [.slice ca133 (at_ r82.Reads g118.toNat).length cc134]) (fun _ hk => ⟨hk, fun w hD => hD.2.1⟩) 19 4 rfl (by kernel_rfl) (wn rfl) hr (.slice ca133 (at_ r82.Reads g118.toNat).length cc134) ⟨(h.pick 1).rowH_cell (by decide) (f := 0) rfl, trivial⟩ (fun w hc => rl rfl (by kernel_rfl) (by kernel_rfl) hc.1) fun a hr => ?_
         refine evDs hgo ⟨⟨(h.pick 3).cell 3 rfl, trivial⟩, ⟨(h.pick 1).rowH_cell (by decide) (f := 0) rfl, trivial⟩, ⟨(h.pick 2).row_cell encZ_i64_ok (f := 0) (at_ok c137) rfl, trivial⟩, trivial⟩ 18 5 rfl (wn rfl) hr (vI (((at_ r82.Reads g118.toNat).length : Nat) : Int)) fun a hr => ?_
         refine el [0, 3, 5, 8] (b := blk car3) (off := g118.toNat * 1) (cs := [vI (at_ r1 g118.toNat)]) (fun _ hk => ⟨hk, fun w hD => hD.2.2.1⟩) 17 9 rfl (by kernel_rfl) (wn rfl) hr (vI (at_ r1 g118.toNat)) ⟨(h.pick 2).row_cell encZ_i64_ok (f := 0) (at_ok c137) rfl, trivial⟩ (fun w hc => rl rfl (by kernel_rfl) (by kernel_rfl) hc.1) fun a hr => ?_
         refine evs 16 10 rfl (wn rfl) hr (vB (decide ((((at_ r82.Reads g118.toNat).length : Nat) : Int) > (at_ r1 g118.toNat)))) fun a hr => ?_
         refine evs 15 11 rfl (wn rfl) hr (vB (decide ((((at_ r82.Reads g118.toNat).length : Nat) : Int) > (at_ r1 g118.toNat)))) fun a hr => ?_
         refine evs 14 12 rfl (wgt hr (decide_eq_false c138)) hr (vB g125) fun a hr => ?_
         refine evs 13 13 rfl (wgt hr (decide_eq_false c138)) hr (vB g125) fun a hr => ?_
         refine eos 12 14 rfl (wgt hr (bF c139)) hr fun a hr => ?_
         refine eos 11 16 rfl (wgt hr (bF c139)) hr fun a hr => ?_
         refine eos 10 20 rfl (wgt hr (bF c139)) hr fun a hr => ?_
         refine eos 9 21 rfl (wgt hr (bF c139)) hr fun a hr => ?_
         refine eos 8 22 rfl (wgt hr (bF c139)) hr fun a hr => ?_
         refine eos 7 15 rfl (wgt hr (bF c139)) hr fun a hr => ?_
         refine eos 6 17 rfl (wgt hr (bF c139)) hr fun a hr => ?_
         refine eos 5 18 rfl (wgt hr (bF c139)) hr fun a hr => ?_
         refine eos 4 19 rfl (wgt hr (bF c139)) hr fun a hr => ?_
         refine eos 3 23 rfl (wgt hr (bF c139)) hr fun a hr => ?_
         refine eos 2 24 rfl (wgt hr (bF c139)) hr fun a hr => ?_
         refine ev 1 25 rfl (by kernel_rfl) (wgt hr (decide_eq_false c138)) hr (vB false) (fun w => rp_f (b := g125) rfl (by kernel_rfl) (bF c139) (by kernel_rfl)) fun a hr => ?_
         refine ev 0 26 rfl (by kernel_rfl) (wn rfl) hr (vB false) (fun w => rp_f (b := (decide ((((at_ r82.Reads g118.toNat).length : Nat) : Int) > (at_ r1 g118.toNat)))) rfl (by kernel_rfl) (decide_eq_false c138) (by kernel_rfl)) fun a hr => ?_
         refine e_end (by kernel_rfl) ?_
         refine then_normal ?_
         refine cond_ff hr (b := false) rfl ?_
         refine wp_skip ?_
         refine then_normal ?_
         replace h := own_sl31_sh (x := (at_ r82.Reads g118.toNat)) h
         replace h : Fit z (sepL (rn31 car87 ccr88 r82.Reads :: ro3 car3 ccr4 r1 :: ob86 b92 r82 car85 ccr86 car87 ccr88 car89 ccr90 car91 r82.Log.length :: ro3 car85 ccr86 r82.Holders :: ro2 car89 ccr90 r82.Marks :: ro96 car91 r82.Log.length r82.Log :: L)) _ := Fit.rowH_same (h.pick 1)
         replace hr := hr.fold2 [(5, .slice car3 r1.length ccr4), (6, pA b92 0), (8, vI g104), (10, vI g118), (110, vB g125), (111, vB g125), (123, vB false)] (by kernel_rfl); obtain ⟨j, hr⟩ := hr
         replace h : Fit z (sepL (ro3 car3 ccr4 r1 :: ob86 b92 r82 car85 ccr86 car87 ccr88 car89 ccr90 car91 r82.Log.length :: ro3 car85 ccr86 r82.Holders :: rn31 car87 ccr88 r82.Reads :: ro2 car89 ccr90 r82.Marks :: ro96 car91 r82.Log.length r82.Log :: L)) _ := h.sel 6 [1, 2, 3, 0, 4, 5] (by kernel_rfl) (by kernel_rfl)
         exact ⟨(), false, sinj H, j, hr, h⟩
      clear h hr a; rintro _ a w ⟨g129, rfl, j, hr, h⟩
      replace H := jk1 hK130
      refine sr ?_
      refine o1 hr (vI 0) fun a hr => ?_
      refine ln ?_
      refine wp_block ?_
      replace hr := hr.fold2 [(5, .slice car3 r1.length ccr4), (6, pA b92 0), (8, vI g104), (10, vI g118), (12, vI 0), (110, vB g125), (111, vB g125), (123, vB g129)] (by kernel_rfl); obtain ⟨j, hr⟩ := hr
      refine loop_rule (β := Nat) id (fun m a w => ∃ g141 : Int, (plunderlaw8_FramesSync_l7 K r82 g118 g125 g129 m g141) = some o124 ∧ ∃ j, Rep 179 (lk [(5, .slice car3 r1.length ccr4), (6, pA b92 0), (8, vI g104), (10, vI g118), (12, vI g141), (110, vB g125), (111, vB g125), (123, vB g129)] j) a ∧ Fit z (sepL (ro3 car3 ccr4 r1 :: ob86 b92 r82 car85 ccr86 car87 ccr88 car89 ccr90 car91 r82.Log.length :: ro3 car85 ccr86 r82.Holders :: rn31 car87 ccr88 r82.Reads :: ro2 car89 ccr90 r82.Marks :: ro96 car91 r82.Log.length r82.Log :: L)) w) K ⟨0, H, j, hr, h⟩ ?_
      clear h hr a H; rintro k7 a w ⟨g141, H, j, hr, h⟩
      cases k7 with
      | zero => exact absurd H (by simp [plunderlaw8_FramesSync_l7])
      | succ k7 =>
       rw [plunderlaw8_FramesSync_l7] at H
       refine wp_seq ?_
       refine sr ?_
       refine oo [125, 126] [vI g141, pA b92 3] hr fun a hr => ?_
       refine ld (wn rfl) hr (.slice car87 r82.Reads.length ccr88) ((h.pick 1).cell 3 rfl) fun a hr => ?_
       obtain ⟨c142, H⟩ := gd H
       refine o1 hr (vI g118) fun a hr => ?_
       refine opv (wn rfl) hr (pA (blk car87) (g118.toNat * 1)) (ri_rowN (k := .i64) (E := 31) rfl (by kernel_rfl) (by kernel_rfl) (by kernel_rfl) (by kernel_rfl) (h.pick 3) c142) fun a hr => ?_
       obtain ⟨cs146, h⟩ := (h.pick 3).rowN_take (at_ok c142)
       obtain ⟨ca143, cc144, e145, h⟩ := own_sl31_op (h.pick 1); subst e145
       replace h : Fit z (sepL (ro2 ca143 cc144 (at_ r82.Reads g118.toNat) :: rowH 31 1 own_sl31 (.slice car87 r82.Reads.length ccr88) r82.Reads g118.toNat [.slice ca143 (at_ r82.Reads g118.toNat).length cc144] :: ro3 car3 ccr4 r1 :: ob86 b92 r82 car85 ccr86 car87 ccr88 car89 ccr90 car91 r82.Log.length :: ro3 car85 ccr86 r82.Holders :: ro2 car89 ccr90 r82.Marks :: ro96 car91 r82.Log.length r82.Log :: L)) _ := h
       refine ld (wn rfl) hr (.slice ca143 (at_ r82.Reads g118.toNat).length cc144) ((h.pick 1).rowH_cell (by decide) (f := 0) rfl) fun a hr => ?_
       refine oo [131, 132] [vI (((at_ r82.Reads g118.toNat).length : Nat) : Int), vB (decide (g141 < (((at_ r82.Reads g118.toNat).length : Nat) : Int)))] hr fun a hr => ?_
       refine ln ?_
       by_cases c147 : g141 < (((at_ r82.Reads g118.toNat).length : Nat) : Int)
       ·
        replace H := ifT c147 H
        refine cond_tt hr (decide_eq_true c147) ?_
        refine wp_skip ?_
        refine then_normal ?_
        refine wp_seq ?_
        refine wp_block ?_
        refine sr ?_
        refine o1 hr (pA b92 3) fun a hr => ?_
        refine ld (wn rfl) hr (.slice car87 r82.Reads.length ccr88) ((h.pick 3).cell 3 rfl) fun a hr => ?_
        refine o1 hr (vI g118) fun a hr => ?_
        refine opv (wn rfl) hr (pA (blk car87) (g118.toNat * 1)) (ri_rowH (k := .i64) (E := 31) rfl (by kernel_rfl) (by kernel_rfl) (by kernel_rfl) (by kernel_rfl) (h.pick 1) c142) fun a hr => ?_
        refine ld (wn rfl) hr (.slice ca143 (at_ r82.Reads g118.toNat).length cc144) ((h.pick 1).rowH_cell (by decide) (f := 0) rfl) fun a hr => ?_
        obtain ⟨c148, H⟩ := gd H
        refine o1 hr (vI g141) fun a hr => ?_
        refine opv (wn rfl) hr (pA (blk ca143) (g141.toNat * 1)) (ri_row (k := .i64) (E := 2) rfl (by kernel_rfl) (by kernel_rfl) (by kernel_rfl) (by kernel_rfl) h c148) fun a hr => ?_
        refine ld (wn rfl) hr (vI (at_ (at_ r82.Reads g118.toNat) g141.toNat)) (h.row_cell encZ_i64_ok (f := 0) (at_ok c148) rfl) fun a hr => ?_
        refine oo [143, 144, 145, 146, 147] [vI g118, vI (wi ((100 : Int) * g118)), vI g141, vI (wi ((wi ((100 : Int) * g118)) + g141)), vB ((at_ (at_ r82.Reads g118.toNat) g141.toNat) != (wi ((wi ((100 : Int) * g118)) + g141)))] hr fun a hr => ?_
        refine ln ?_
        by_cases c149 : (at_ (at_ r82.Reads g118.toNat) g141.toNat) = (wi ((wi ((100 : Int) * g118)) + g141))
        ·
         replace H := ifT c149 H
         refine cond_ff hr (bne_eq_false_iff_eq.mpr c149) ?_
         refine wp_skip ?_
         refine blk_normal ?_
         refine then_normal ?_
         refine wp_region_lit ?_
         refine oo [133, 134, 12] [vI g141, vI (wi (g141 + 1)), vI (wi (g141 + 1))] hr fun a hr => ?_
         refine ln ?_
         replace h := own_sl31_sh (x := (at_ r82.Reads g118.toNat)) h
         replace h : Fit z (sepL (rn31 car87 ccr88 r82.Reads :: ro3 car3 ccr4 r1 :: ob86 b92 r82 car85 ccr86 car87 ccr88 car89 ccr90 car91 r82.Log.length :: ro3 car85 ccr86 r82.Holders :: ro2 car89 ccr90 r82.Marks :: ro96 car91 r82.Log.length r82.Log :: L)) _ := Fit.rowH_same (h.pick 1)
         replace hr := hr.fold2 [(5, .slice car3 r1.length ccr4), (6, pA b92 0), (8, vI g104), (10, vI g118), (12, vI (wi (g141 + 1))), (110, vB g125), (111, vB g125), (123, vB g129)] (by kernel_rfl); obtain ⟨j, hr⟩ := hr
         replace h : Fit z (sepL (ro3 car3 ccr4 r1 :: ob86 b92 r82 car85 ccr86 car87 ccr88 car89 ccr90 car91 r82.Log.length :: ro3 car85 ccr86 r82.Holders :: rn31 car87 ccr88 r82.Reads :: ro2 car89 ccr90 r82.Marks :: ro96 car91 r82.Log.length r82.Log :: L)) _ := h.sel 6 [1, 2, 3, 0, 4, 5] (by kernel_rfl) (by kernel_rfl)
         exact ⟨_, ⟨(wi (g141 + 1)), H, j, hr, h⟩, Nat.lt_succ_self _⟩
        ·
         replace H := ifF c149 H
         refine cond_tt hr (bne_iff_ne.mpr c149) ?_
         refine sr ?_
         refine o1 hr (vB false) fun a hr => ?_
         refine ln ?_
         refine wp_ret ?_
         refine blk_ret ?_
         refine then_ret ?_
         refine then_ret ?_
         refine blk_ret ?_
         refine blk_ret ?_
         refine then_ret ?_
         refine then_ret ?_
         refine blk_ret ?_
         refine then_ret ?_
         refine end_ret1 (v := vB false) rfl hr (by kernel_rfl) ?_
         replace h := own_sl31_sh (x := (at_ r82.Reads g118.toNat)) h
         replace h : Fit z (sepL (rn31 car87 ccr88 r82.Reads :: ro3 car3 ccr4 r1 :: ob86 b92 r82 car85 ccr86 car87 ccr88 car89 ccr90 car91 r82.Log.length :: ro3 car85 ccr86 r82.Holders :: ro2 car89 ccr90 r82.Marks :: ro96 car91 r82.Log.length r82.Log :: L)) _ := Fit.rowH_same (h.pick 1)
         replace H := jx3 H hK123
         replace H := jx0 H hK116
         replace h : Fit z (sepL (L)) _ := h.sel 6 [] (by kernel_rfl) (by kernel_rfl)
         replace H := ej1 H; subst H
         exact ⟨rfl, h⟩
       ·
        replace H := ifF c147 H
        refine cond_ff hr (decide_eq_false c147) ?_
        refine wp_exit ?_
        refine then_exit ?_
        refine then_exit ?_
        refine blk_here ?_
        refine blk_normal ?_
        refine then_normal ?_
        replace h := own_sl31_sh (x := (at_ r82.Reads g118.toNat)) h
        replace h : Fit z (sepL (rn31 car87 ccr88 r82.Reads :: ro3 car3 ccr4 r1 :: ob86 b92 r82 car85 ccr86 car87 ccr88 car89 ccr90 car91 r82.Log.length :: ro3 car85 ccr86 r82.Holders :: ro2 car89 ccr90 r82.Marks :: ro96 car91 r82.Log.length r82.Log :: L)) _ := Fit.rowH_same (h.pick 1)
        replace hr := hr.fold2 [(5, .slice car3 r1.length ccr4), (6, pA b92 0), (8, vI g104), (10, vI g118), (110, vB g125), (111, vB g125), (123, vB g129)] (by kernel_rfl); obtain ⟨j, hr⟩ := hr
        replace h : Fit z (sepL (ro3 car3 ccr4 r1 :: ob86 b92 r82 car85 ccr86 car87 ccr88 car89 ccr90 car91 r82.Log.length :: ro3 car85 ccr86 r82.Holders :: rn31 car87 ccr88 r82.Reads :: ro2 car89 ccr90 r82.Marks :: ro96 car91 r82.Log.length r82.Log :: L)) _ := h.sel 6 [1, 2, 3, 0, 4, 5] (by kernel_rfl) (by kernel_rfl)
        exact ⟨(), g125, g125, g129, sinj H, j, hr, h⟩
     clear h hr a; rintro _ a w ⟨g120, g121, g122, rfl, j, hr, h⟩
     replace H := jk3 hK123
     refine wp_region_lit ?_
     refine oo [86, 87, 10] [vI g118, vI (wi (g118 + 1)), vI (wi (g118 + 1))] hr fun a hr => ?_
     refine ln ?_
     replace hr := hr.fold2 [(5, .slice car3 r1.length ccr4), (6, pA b92 0), (8, vI g104), (10, vI (wi (g118 + 1)))] (by kernel_rfl); obtain ⟨j, hr⟩ := hr
     exact ⟨_, ⟨(wi (g118 + 1)), H, j, hr, h⟩, Nat.lt_succ_self _⟩
    ·
     replace H := ifF c119 H
     refine cond_ff hr (decide_eq_false c119) ?_
     refine wp_exit ?_
     refine then_exit ?_
     refine then_exit ?_
     refine blk_here ?_
     refine then_normal ?_
     replace hr := hr.fold2 [(6, pA b92 0), (8, vI g104)] (by kernel_rfl); obtain ⟨j, hr⟩ := hr
     replace h : Fit z (sepL (ob86 b92 r82 car85 ccr86 car87 ccr88 car89 ccr90 car91 r82.Log.length :: ro3 car85 ccr86 r82.Holders :: rn31 car87 ccr88 r82.Reads :: ro2 car89 ccr90 r82.Marks :: ro96 car91 r82.Log.length r82.Log :: L)) _ := h.sel 6 [1, 2, 3, 4, 5] (by kernel_rfl) (by kernel_rfl)
     exact ⟨(), sinj H, j, hr, h⟩
  clear h hr a; rintro _ a w ⟨rfl, j, hr, h⟩
  replace H := jk0 hK116
  refine wp_seq ?_
  refine sr ?_
  refine o1 hr (vI 0) fun a hr => ?_
  refine ln ?_
  refine wp_block ?_
  replace hr := hr.fold2 [(6, pA b92 0), (8, vI g104), (13, vI 0)] (by kernel_rfl); obtain ⟨j, hr⟩ := hr
  refine loop_rule (β := Nat) id (fun m a w => ∃ g150 : Int, (plunderlaw8_FramesSync_l8 K r82 g104 m g150) = some r0 ∧ ∃ j, Rep 179 (lk [(6, pA b92 0), (8, vI g104), (13, vI g150)] j) a ∧ Fit z (sepL (ob86 b92 r82 car85 ccr86 car87 ccr88 car89 ccr90 car91 r82.Log.length :: ro3 car85 ccr86 r82.Holders :: rn31 car87 ccr88 r82.Reads :: ro2 car89 ccr90 r82.Marks :: ro96 car91 r82.Log.length r82.Log :: L)) w) K ⟨0, H, j, hr, h⟩ ?_
  clear h hr a H; rintro k8 a w ⟨g150, H, j, hr, h⟩
  cases k8 with
  | zero => exact absurd H (by simp [plunderlaw8_FramesSync_l8])
  | succ k8 =>
   rw [plunderlaw8_FramesSync_l8] at H
   refine wp_seq ?_
   refine sr ?_
   refine oo [148, 149, 150] [vI g150, vI g104, vB (decide (g150 < g104))] hr fun a hr => ?_
   refine ln ?_
   by_cases c151 : g150 < g104
   ·
    replace H := ifT c151 H
    refine cond_tt hr (decide_eq_true c151) ?_
    refine wp_skip ?_
    refine then_normal ?_
    refine wp_seq ?_
    refine wp_block ?_
    refine sr ?_
    refine o1 hr (pA b92 4) fun a hr => ?_
    refine ld (wn rfl) hr (.slice car89 r82.Marks.length ccr90) (h.cell 4 rfl) fun a hr => ?_
    obtain ⟨c152, H⟩ := gd H
    refine o1 hr (vI g150) fun a hr => ?_
    refine opv (wn rfl) hr (pA (blk car89) (g150.toNat * 1)) (ri_row (k := .i64) (E := 2) rfl (by kernel_rfl) (by kernel_rfl) (by kernel_rfl) (by kernel_rfl) (h.pick 3) c152) fun a hr => ?_
    refine ld (wn rfl) hr (vI (at_ r82.Marks g150.toNat)) ((h.pick 3).row_cell encZ_i64_ok (f := 0) (at_ok c152) rfl) fun a hr => ?_
    refine oo [158, 159] [vB (decide ((at_ r82.Marks g150.toNat) < 0)), vB (decide ((at_ r82.Marks g150.toNat) < 0))] hr fun a hr => ?_
    by_cases c153 : (at_ r82.Marks g150.toNat) < 0
    ·
     replace H := ifT c153 H
     refine offg (wgt hr (decide_eq_true c153)) hr fun a hr => ?_
     refine offg (wgt hr (decide_eq_true c153)) hr fun a hr => ?_
     refine offg (wgt hr (decide_eq_true c153)) hr fun a hr => ?_
     refine offg (wgt hr (decide_eq_true c153)) hr fun a hr => ?_
     refine offg (wgt hr (decide_eq_true c153)) hr fun a hr => ?_
     refine offg (wgt hr (decide_eq_true c153)) hr fun a hr => ?_
     refine opv (wn rfl) hr (vB true) (rp_t (b := (decide ((at_ r82.Marks g150.toNat) < 0))) rfl (by kernel_rfl) (decide_eq_true c153) (by kernel_rfl)) fun a hr => ?_
     refine o1 hr (vB true) fun a hr => ?_
     refine offg (wgt hr (c := true) rfl) hr fun a hr => ?_
     refine offg (wgt hr (c := true) rfl) hr fun a hr => ?_
     refine offg (wgt hr (c := true) rfl) hr fun a hr => ?_
     refine offg (wg_undef hr rfl rfl rfl (by kernel_rfl)) hr fun a hr => ?_
     refine offg (wg_undef hr rfl rfl rfl (by kernel_rfl)) hr fun a hr => ?_
     refine offg (wg_undef hr rfl rfl rfl (by kernel_rfl)) hr fun a hr => ?_
     refine offg (wg_undef hr rfl rfl rfl (by kernel_rfl)) hr fun a hr => ?_
     refine offg (wg_undef hr rfl rfl rfl (by kernel_rfl)) hr fun a hr => ?_
     refine offg (wg_undef hr rfl rfl rfl (by kernel_rfl)) hr fun a hr => ?_
     refine offg (wgt hr (c := true) rfl) hr fun a hr => ?_
     refine o1 hr (vB true) fun a hr => ?_
     refine ln ?_
     refine cond_tt hr (b := true) rfl ?_
     refine sr ?_
     refine o1 hr (vB false) fun a hr => ?_
     refine ln ?_
     refine wp_ret ?_
     refine blk_ret ?_
     refine then_ret ?_
     refine then_ret ?_
     refine blk_ret ?_
     refine then_ret ?_
     refine end_ret1 (v := vB false) rfl hr (by kernel_rfl) ?_
     replace h : Fit z (sepL (L)) _ := h.sel 5 [] (by kernel_rfl) (by kernel_rfl)
     replace H := ej1 H; subst H
     exact ⟨rfl, h⟩
    ·
     replace H := ifF c153 H
     refine opv (wgt hr (decide_eq_false c153)) hr (pA b92 4) (by kernel_rfl) fun a hr => ?_
     refine ld (wgt hr (decide_eq_false c153)) hr (.slice car89 r82.Marks.length ccr90) (h.cell 4 rfl) fun a hr => ?_
     refine opv (wgt hr (decide_eq_false c153)) hr (vI g150) (by kernel_rfl) fun a hr => ?_
     refine opv (wgt hr (decide_eq_false c153)) hr (pA (blk car89) (g150.toNat * 1)) (ri_row (k := .i64) (E := 2) rfl (by kernel_rfl) (by kernel_rfl) (by kernel_rfl) (by kernel_rfl) (h.pick 3) c152) fun a hr => ?_
     refine ld (wgt hr (decide_eq_false c153)) hr (vI (at_ r82.Marks g150.toNat)) ((h.pick 3).row_cell encZ_i64_ok (f := 0) (at_ok c152) rfl) fun a hr => ?_
     refine opv (wgt hr (decide_eq_false c153)) hr (vB (decide ((at_ r82.Marks g150.toNat) > 1))) (by kernel_rfl) fun a hr => ?_
     refine opv (wn rfl) hr (vB (decide ((at_ r82.Marks g150.toNat) > 1))) (rp_f (b := (decide ((at_ r82.Marks g150.toNat) < 0))) rfl (by kernel_rfl) (decide_eq_false c153) (by kernel_rfl)) fun a hr => ?_
     refine o1 hr (vB (decide ((at_ r82.Marks g150.toNat) > 1))) fun a hr => ?_
     by_cases c154 : (at_ r82.Marks g150.toNat) > 1
     ·
      replace H := ifT c154 H
      refine offg (wgt hr (decide_eq_true c154)) hr fun a hr => ?_
      refine offg (wgt hr (decide_eq_true c154)) hr fun a hr => ?_
      refine offg (wgt hr (decide_eq_true c154)) hr fun a hr => ?_
      refine offg (wg_undef hr rfl rfl rfl (by kernel_rfl)) hr fun a hr => ?_
      refine offg (wg_undef hr rfl rfl rfl (by kernel_rfl)) hr fun a hr => ?_
      refine offg (wg_undef hr rfl rfl rfl (by kernel_rfl)) hr fun a hr => ?_
      refine offg (wg_undef hr rfl rfl rfl (by kernel_rfl)) hr fun a hr => ?_
      refine offg (wg_undef hr rfl rfl rfl (by kernel_rfl)) hr fun a hr => ?_
      refine offg (wg_undef hr rfl rfl rfl (by kernel_rfl)) hr fun a hr => ?_
      refine offg (wgt hr (decide_eq_true c154)) hr fun a hr => ?_
      refine opv (wn rfl) hr (vB true) (rp_t (b := (decide ((at_ r82.Marks g150.toNat) > 1))) rfl (by kernel_rfl) (decide_eq_true c154) (by kernel_rfl)) fun a hr => ?_
      refine ln ?_
      refine cond_tt hr (b := true) rfl ?_
      refine sr ?_
      refine o1 hr (vB false) fun a hr => ?_
      refine ln ?_
      refine wp_ret ?_
      refine blk_ret ?_
      refine then_ret ?_
      refine then_ret ?_
      refine blk_ret ?_
      refine then_ret ?_
      refine end_ret1 (v := vB false) rfl hr (by kernel_rfl) ?_
      replace h : Fit z (sepL (L)) _ := h.sel 5 [] (by kernel_rfl) (by kernel_rfl)
      replace H := ej1 H; subst H
      exact ⟨rfl, h⟩
     ·
      replace H := ifF c154 H
      refine opv (wgt hr (decide_eq_false c154)) hr (pA b92 0) (by kernel_rfl) fun a hr => ?_
      refine ld (wgt hr (decide_eq_false c154)) hr (vB r82.Done) (h.cell 0 rfl) fun a hr => ?_
      refine opv (wgt hr (decide_eq_false c154)) hr (vB r82.Done) (by kernel_rfl) fun a hr => ?_
      by_cases c155 : r82.Done = true
      ·
       replace H := ifT c155 H
       refine opv (wgt hr (c155)) hr (pA b92 4) (by kernel_rfl) fun a hr => ?_
       refine ld (wgt hr (c155)) hr (.slice car89 r82.Marks.length ccr90) (h.cell 4 rfl) fun a hr => ?_
       refine opv (wgt hr (c155)) hr (vI g150) (by kernel_rfl) fun a hr => ?_
       refine opv (wgt hr (c155)) hr (pA (blk car89) (g150.toNat * 1)) (ri_row (k := .i64) (E := 2) rfl (by kernel_rfl) (by kernel_rfl) (by kernel_rfl) (by kernel_rfl) (h.pick 3) c152) fun a hr => ?_
       refine ld (wgt hr (c155)) hr (vI (at_ r82.Marks g150.toNat)) ((h.pick 3).row_cell encZ_i64_ok (f := 0) (at_ok c152) rfl) fun a hr => ?_
       refine opv (wgt hr (c155)) hr (vB ((at_ r82.Marks g150.toNat) != 1)) (by kernel_rfl) fun a hr => ?_
       refine opv (wgt hr (decide_eq_false c154)) hr (vB ((at_ r82.Marks g150.toNat) != 1)) (rp_t (b := r82.Done) rfl (by kernel_rfl) (c155) (by kernel_rfl)) fun a hr => ?_
       refine opv (wn rfl) hr (vB ((at_ r82.Marks g150.toNat) != 1)) (rp_f (b := (decide ((at_ r82.Marks g150.toNat) > 1))) rfl (by kernel_rfl) (decide_eq_false c154) (by kernel_rfl)) fun a hr => ?_
       refine ln ?_
       by_cases c156 : (at_ r82.Marks g150.toNat) = 1
       ·
        replace H := ifT c156 H
        refine cond_ff hr (bne_eq_false_iff_eq.mpr c156) ?_
        refine wp_skip ?_
        refine blk_normal ?_
        refine then_normal ?_
        refine wp_region_lit ?_
        refine oo [151, 152, 13] [vI g150, vI (wi (g150 + 1)), vI (wi (g150 + 1))] hr fun a hr => ?_
        refine ln ?_
        replace hr := hr.fold2 [(6, pA b92 0), (8, vI g104), (13, vI (wi (g150 + 1)))] (by kernel_rfl); obtain ⟨j, hr⟩ := hr
        exact ⟨_, ⟨(wi (g150 + 1)), H, j, hr, h⟩, Nat.lt_succ_self _⟩
       ·
        replace H := ifF c156 H
        refine cond_tt hr (bne_iff_ne.mpr c156) ?_
        refine sr ?_
        refine o1 hr (vB false) fun a hr => ?_
        refine ln ?_
        refine wp_ret ?_
        refine blk_ret ?_
        refine then_ret ?_
        refine then_ret ?_
        refine blk_ret ?_
        refine then_ret ?_
        refine end_ret1 (v := vB false) rfl hr (by kernel_rfl) ?_
        replace h : Fit z (sepL (L)) _ := h.sel 5 [] (by kernel_rfl) (by kernel_rfl)
        replace H := ej1 H; subst H
        exact ⟨rfl, h⟩
      ·
       replace H := ifF c155 H
       refine offg (wgt hr (bF c155)) hr fun a hr => ?_
       refine offg (wgt hr (bF c155)) hr fun a hr => ?_
       refine offg (wgt hr (bF c155)) hr fun a hr => ?_
       refine offg (wgt hr (bF c155)) hr fun a hr => ?_
       refine offg (wgt hr (bF c155)) hr fun a hr => ?_
       refine offg (wgt hr (bF c155)) hr fun a hr => ?_
       refine opv (wgt hr (decide_eq_false c154)) hr (vB false) (rp_f (b := r82.Done) rfl (by kernel_rfl) (bF c155) (by kernel_rfl)) fun a hr => ?_
       refine opv (wn rfl) hr (vB false) (rp_f (b := (decide ((at_ r82.Marks g150.toNat) > 1))) rfl (by kernel_rfl) (decide_eq_false c154) (by kernel_rfl)) fun a hr => ?_
       refine ln ?_
       refine cond_ff hr (b := false) rfl ?_
       refine wp_skip ?_
       refine blk_normal ?_
       refine then_normal ?_
       refine wp_region_lit ?_
       refine oo [151, 152, 13] [vI g150, vI (wi (g150 + 1)), vI (wi (g150 + 1))] hr fun a hr => ?_
       refine ln ?_
       replace hr := hr.fold2 [(6, pA b92 0), (8, vI g104), (13, vI (wi (g150 + 1)))] (by kernel_rfl); obtain ⟨j, hr⟩ := hr
       exact ⟨_, ⟨(wi (g150 + 1)), H, j, hr, h⟩, Nat.lt_succ_self _⟩
   ·
    replace H := ifF c151 H
    refine cond_ff hr (decide_eq_false c151) ?_
    refine wp_exit ?_
    refine then_exit ?_
    refine then_exit ?_
    refine blk_here ?_
    refine then_normal ?_
    refine sr ?_
    refine o1 hr (vB true) fun a hr => ?_
    refine ln ?_
    refine wp_ret ?_
    refine end_ret1 (v := vB true) rfl hr (by kernel_rfl) ?_
    replace h : Fit z (sepL (L)) _ := h.sel 5 [] (by kernel_rfl) (by kernel_rfl)
    replace H := ej1 H; subst H
    exact ⟨rfl, h⟩


end Go.Proofs.Ytnghahgfcaolbaa.Mo
