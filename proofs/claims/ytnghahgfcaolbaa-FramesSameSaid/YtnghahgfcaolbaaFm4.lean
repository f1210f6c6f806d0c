/- what the functions compute, as plain Lean functions, and that they do -/
import Derived.Test.YtnghahgfcaolbaaFm3
namespace Go.Proofs.Ytnghahgfcaolbaa.Mo
open Go Go.RowKit Go.Proofs.Ytnghahgfcaolbaa.SL Go.Proofs.Ytnghahgfcaolbaa.GX
set_option linter.unusedVariables false
set_option linter.unusedSimpArgs false

set_option maxRecDepth 100000 in
set_option maxHeartbeats 4000000 in
theorem plunderlaw8_FramesSame_ok {z w : World} {L : List HProp} {K : Nat} {p0 : List Int} {p1 : List Int} {p2 : List Int} {va0 : Option Addr} {vc0 : Nat} {va1 : Option Addr} {vc1 : Nat} {va2 : Option Addr} {vc2 : Nat} {r0 : Bool} (H : plunderlaw8_FramesSame K p0 p1 p2 = some r0) (h : Fit z (sepL (L)) w) (hv0 : RdRow L 1 encZ_i64 va0 p0) (hv1 : RdRow L 1 encZ_i64 va1 p1) (hc1 : p1.length ≤ vc1) (hv2 : RdRow L 1 encZ_i64 va2 p2) (hc2 : p2.length ≤ vc2) :
    Calls Try.prog 12 #[.slice va0 p0.length vc0, .slice va1 p1.length vc1, .slice va2 p2.length vc2] w fun e w => e = .returned (vB r0) ∧ Fit z (sepL (L)) w := by
 unfold plunderlaw8_FramesSame at H
 refine enter Try.func12 rfl 82 rfl rfl [(0, .slice va0 p0.length vc0), (1, .slice va1 p1.length vc1), (2, .slice va2 p2.length vc2)] ⟨rfl, rfl, rfl, trivial⟩ ?_
 intro j a hr
 refine sr ?_
 refine o1 hr (vB false) fun a hr => ?_
 refine ln ?_
 refine sr ?_
 obtain ⟨r1, e2, H⟩ := bd1 H
 refine o1 hr (.slice va0 p0.length vc0) fun a hr => ?_
 have hc := plunderlaw8_tidy_ok (va0 := va0) (vc0 := vc0) (hv0 := (RdRow.up 0 hv0)) (H := e2) (h := h)
 refine cl (wn rfl) hr hc ?_; clear hc h
 rintro _ w ⟨car3, ccr4, rfl, h⟩; refine ⟨_, rfl, fun a hr => ?_⟩
 refine o1 hr (.slice car3 r1.length ccr4) fun a hr => ?_
 refine ln ?_
 refine sr ?_
 refine oo [16, 17] [.slice car3 r1.length ccr4, .slice va1 p1.length vc1] hr fun a hr => ?_
 refine op_inl (wn rfl) rfl rfl hr (f := 50) (args := #[.slice va1 p1.length vc1]) (by kernel_rfl) ?_; clear hr a
 refine enter Try.func50 rfl 9 rfl rfl [(0, .slice va1 p1.length vc1)] ⟨by kernel_rfl, trivial⟩ ?_; intro j a hr
 refine sr ?_
 refine o1 hr (.slice none 0 0) fun a hr => ?_
 refine ln ?_
 refine wp_seq ?_
 refine sr ?_
 refine oo [3, 4, 5] [.slice va1 p1.length vc1, vI ((p1.length : Nat) : Int), vB (decide (((p1.length : Nat) : Int) > 1048576))] hr fun a hr => ?_
 refine ln ?_
 by_cases c5 : ((p1.length : Nat) : Int) > 1048576
 ·
  replace H := ifT c5 H
  refine cond_tt hr (decide_eq_true c5) ?_
  refine sr ?_
  obtain ⟨c6, H⟩ := gd H
  refine o1 hr (.slice va1 p1.length vc1) fun a hr => ?_
  refine opv (wn rfl) hr (.slice va1 (p1.take 1048576).length vc1) (rslr (k := .i64) (E := 3) (sz := 1) (xs := p1) rfl (by kernel_rfl) (by kernel_rfl) (by kernel_rfl) (by kernel_rfl) hc1 c6) fun a hr => ?_
  refine o1 hr (.slice va1 (p1.take 1048576).length vc1) fun a hr => ?_
  refine ln ?_
  refine wp_ret ?_
  refine then_ret ?_
  refine end_ret1 (v := .slice va1 (p1.take 1048576).length vc1) rfl hr (by kernel_rfl) ?_
  refine ⟨_, rfl, ?_⟩; clear hr a; intro a hr
  obtain ⟨r7, r8, e9, H⟩ := bd2 H
  have hc := frames_Play_ok (va0 := car3) (vc0 := ccr4) (va1 := va1) (vc1 := vc1) (hv0 := (RdRow.of_row encZ_i64_ok h (fun h => h))) (hv1 := (RdRow.up 1 (RdRow.take hv1 _))) (H := e9) (h := h)
  refine cl (wn rfl) hr hc ?_; clear hc h
  rintro _ w ⟨car10, ccr11, car12, ccr13, car14, ccr15, car16, rfl, h⟩; refine ⟨_, rfl, fun a hr => ?_⟩
  refine oo [15, 20, 21] [.tuple #[.agg #[vB r7.Done, vI r7.Steps, .slice car10 r7.Holders.length ccr11, .slice car12 r7.Reads.length ccr13, .slice car14 r7.Marks.length ccr15, .slice car16 r7.Log.length r7.Log.length], vI r8], .agg #[vB r7.Done, vI r7.Steps, .slice car10 r7.Holders.length ccr11, .slice car12 r7.Reads.length ccr13, .slice car14 r7.Marks.length ccr15, .slice car16 r7.Log.length r7.Log.length], vI r8] hr fun a hr => ?_
  refine onew (wn rfl) hr h nb (#[vB false, vI 0, .slice none 0 0, .slice none 0 0, .slice none 0 0, .slice none 0 0]) 86 fun b17 w a h hr => ?_
  refine stos (wn rfl) hr h 0 ([vB r7.Done, vI r7.Steps, .slice car10 r7.Holders.length ccr11, .slice car12 r7.Reads.length ccr13, .slice car14 r7.Marks.length ccr15, .slice car16 r7.Log.length r7.Log.length]) (#[vB r7.Done, vI r7.Steps, .slice car10 r7.Holders.length ccr11, .slice car12 r7.Reads.length ccr13, .slice car14 r7.Marks.length ccr15, .slice car16 r7.Log.length r7.Log.length]) fun w h => ?_
  refine o1 hr (vI r8) fun a hr => ?_
  refine wpList_nil ?_
  replace h : Fit z (sepL (ob86 b17 r7 car10 ccr11 car12 ccr13 car14 ccr15 car16 r7.Log.length :: ro3 car10 ccr11 r7.Holders :: rn31 car12 ccr13 r7.Reads :: ro2 car14 ccr15 r7.Marks :: ro96 car16 r7.Log.length r7.Log :: ro3 car3 ccr4 r1 :: L)) _ := h
  refine then_normal ?_
  refine sr ?_
  refine oo [23, 24] [.slice car3 r1.length ccr4, .slice va2 p2.length vc2] hr fun a hr => ?_
  refine op_inl (wn rfl) rfl rfl hr (f := 50) (args := #[.slice va2 p2.length vc2]) (by kernel_rfl) ?_; clear hr a
  refine enter Try.func50 rfl 9 rfl rfl [(0, .slice va2 p2.length vc2)] ⟨by kernel_rfl, trivial⟩ ?_; intro j a hr
  refine sr ?_
  refine o1 hr (.slice none 0 0) fun a hr => ?_
  refine ln ?_
  refine wp_seq ?_
  refine sr ?_
  refine oo [3, 4, 5] [.slice va2 p2.length vc2, vI ((p2.length : Nat) : Int), vB (decide (((p2.length : Nat) : Int) > 1048576))] hr fun a hr => ?_
  refine ln ?_
  by_cases c18 : ((p2.length : Nat) : Int) > 1048576
  ·
   replace H := ifT c18 H
   refine cond_tt hr (decide_eq_true c18) ?_
   refine sr ?_
   obtain ⟨c19, H⟩ := gd H
   refine o1 hr (.slice va2 p2.length vc2) fun a hr => ?_
   refine opv (wn rfl) hr (.slice va2 (p2.take 1048576).length vc2) (rslr (k := .i64) (E := 3) (sz := 1) (xs := p2) rfl (by kernel_rfl) (by kernel_rfl) (by kernel_rfl) (by kernel_rfl) hc2 c19) fun a hr => ?_
   refine o1 hr (.slice va2 (p2.take 1048576).length vc2) fun a hr => ?_
   refine ln ?_
   refine wp_ret ?_
   refine then_ret ?_
   refine end_ret1 (v := .slice va2 (p2.take 1048576).length vc2) rfl hr (by kernel_rfl) ?_
   refine ⟨_, rfl, ?_⟩; clear hr a; intro a hr
   obtain ⟨r20, r21, e22, H⟩ := bd2 H
   have hc := frames_Play_ok (va0 := car3) (vc0 := ccr4) (va1 := va2) (vc1 := vc2) (hv0 := (RdRow.of_row encZ_i64_ok (h.pick 5) (fun h => (h.pick 5)))) (hv1 := (RdRow.up 6 (RdRow.take hv2 _))) (H := e22) (h := h)
   refine cl (wn rfl) hr hc ?_; clear hc h
   rintro _ w ⟨car23, ccr24, car25, ccr26, car27, ccr28, car29, rfl, h⟩; refine ⟨_, rfl, fun a hr => ?_⟩
   refine oo [22, 27, 28] [.tuple #[.agg #[vB r20.Done, vI r20.Steps, .slice car23 r20.Holders.length ccr24, .slice car25 r20.Reads.length ccr26, .slice car27 r20.Marks.length ccr28, .slice car29 r20.Log.length r20.Log.length], vI r21], .agg #[vB r20.Done, vI r20.Steps, .slice car23 r20.Holders.length ccr24, .slice car25 r20.Reads.length ccr26, .slice car27 r20.Marks.length ccr28, .slice car29 r20.Log.length r20.Log.length], vI r21] hr fun a hr => ?_
   refine onew (wn rfl) hr h nb (#[vB false, vI 0, .slice none 0 0, .slice none 0 0, .slice none 0 0, .slice none 0 0]) 86 fun b30 w a h hr => ?_
   refine stos (wn rfl) hr h 0 ([vB r20.Done, vI r20.Steps, .slice car23 r20.Holders.length ccr24, .slice car25 r20.Reads.length ccr26, .slice car27 r20.Marks.length ccr28, .slice car29 r20.Log.length r20.Log.length]) (#[vB r20.Done, vI r20.Steps, .slice car23 r20.Holders.length ccr24, .slice car25 r20.Reads.length ccr26, .slice car27 r20.Marks.length ccr28, .slice car29 r20.Log.length r20.Log.length]) fun w h => ?_
   refine o1 hr (vI r21) fun a hr => ?_
   refine wpList_nil ?_
   replace h : Fit z (sepL (ob86 b30 r20 car23 ccr24 car25 ccr26 car27 ccr28 car29 r20.Log.length :: ro3 car23 ccr24 r20.Holders :: rn31 car25 ccr26 r20.Reads :: ro2 car27 ccr28 r20.Marks :: ro96 car29 r20.Log.length r20.Log :: ob86 b17 r7 car10 ccr11 car12 ccr13 car14 ccr15 car16 r7.Log.length :: ro3 car10 ccr11 r7.Holders :: rn31 car12 ccr13 r7.Reads :: ro2 car14 ccr15 r7.Marks :: ro96 car16 r7.Log.length r7.Log :: ro3 car3 ccr4 r1 :: L)) _ := h
   refine then_normal ?_
   refine sr ?_
   obtain ⟨r31, e32, H⟩ := bd1 H
   refine o1 hr (.slice car3 r1.length ccr4) fun a hr => ?_
   have hc := plunderlaw8_length_ok (va0 := car3) (vc0 := ccr4) (hv0 := (RdRow.of_row encZ_i64_ok (h.pick 10) (fun h => (h.pick 10)))) (H := e32) (h := h)
   refine cl (wn rfl) hr hc ?_; clear hc h
   rintro _ w ⟨rfl, h⟩; refine ⟨_, rfl, fun a hr => ?_⟩
   refine o1 hr (vI r31) fun a hr => ?_
   refine ln ?_
   obtain ⟨o34, H, hK33⟩ := jd0 H
   refine cut_rule (β := Unit) (fun _ a w => .inl () = o34 ∧ ∃ j, Rep 82 (lk [(8, pA b17 0), (10, pA b30 0)] j) a ∧ Fit z (sepL (ob86 b17 r7 car10 ccr11 car12 ccr13 car14 ccr15 car16 r7.Log.length :: ro3 car10 ccr11 r7.Holders :: rn31 car12 ccr13 r7.Reads :: ro2 car14 ccr15 r7.Marks :: ro96 car16 r7.Log.length r7.Log :: ob86 b30 r20 car23 ccr24 car25 ccr26 car27 ccr28 car29 r20.Log.length :: ro3 car23 ccr24 r20.Holders :: rn31 car25 ccr26 r20.Reads :: ro2 car27 ccr28 r20.Marks :: ro96 car29 r20.Log.length r20.Log :: L)) w) ?_ ?_
   ·
    refine sr ?_
    refine oo [31, 32, 33] [vI r8, vB (r8 != 0), vB (r8 != 0)] hr fun a hr => ?_
    by_cases c35 : r8 = 0
    ·
     replace H := ifT c35 H
     refine opv (wgt hr (bne_eq_false_iff_eq.mpr c35)) hr (vI r21) (by kernel_rfl) fun a hr => ?_
     refine opv (wgt hr (bne_eq_false_iff_eq.mpr c35)) hr (vB (r21 != 0)) (by kernel_rfl) fun a hr => ?_
     refine opv (wn rfl) hr (vB (r21 != 0)) (rp_f (b := (r8 != 0)) rfl (by kernel_rfl) (bne_eq_false_iff_eq.mpr c35) (by kernel_rfl)) fun a hr => ?_
     refine o1 hr (vB (r21 != 0)) fun a hr => ?_
     by_cases c36 : r21 = 0
     ·
      replace H := ifT c36 H
      refine opv (wgt hr (bne_eq_false_iff_eq.mpr c36)) hr (pA b17 0) (by kernel_rfl) fun a hr => ?_
      refine ld (wgt hr (bne_eq_false_iff_eq.mpr c36)) hr (vB r7.Done) ((h.pick 5).cell 0 rfl) fun a hr => ?_
      refine opv (wgt hr (bne_eq_false_iff_eq.mpr c36)) hr (.slice va1 p1.length vc1) (by kernel_rfl) fun a hr => ?_
      refine opv (wgt hr (bne_eq_false_iff_eq.mpr c36)) hr (vI ((p1.length : Nat) : Int)) (by kernel_rfl) fun a hr => ?_
      refine opv (wgt hr (bne_eq_false_iff_eq.mpr c36)) hr (vI r31) (by kernel_rfl) fun a hr => ?_
      refine opv (wgt hr (bne_eq_false_iff_eq.mpr c36)) hr (vB (decide (((p1.length : Nat) : Int) ≥ r31))) (by kernel_rfl) fun a hr => ?_
      refine opv (wgt hr (bne_eq_false_iff_eq.mpr c36)) hr (vB (!(r7.Done == (decide (((p1.length : Nat) : Int) ≥ r31))))) (by kernel_rfl) fun a hr => ?_
      refine opv (wn rfl) hr (vB (!(r7.Done == (decide (((p1.length : Nat) : Int) ≥ r31))))) (rp_f (b := (r21 != 0)) rfl (by kernel_rfl) (bne_eq_false_iff_eq.mpr c36) (by kernel_rfl)) fun a hr => ?_
      refine o1 hr (vB (!(r7.Done == (decide (((p1.length : Nat) : Int) ≥ r31))))) fun a hr => ?_
      by_cases c37 : r7.Done = (decide (((p1.length : Nat) : Int) ≥ r31))
      ·
       replace H := ifT c37 H
       refine opv (wgt hr (x := !(r7.Done == (decide (((p1.length : Nat) : Int) ≥ r31)))) (c := false) (by rw [show (r7.Done == (decide (((p1.length : Nat) : Int) ≥ r31))) = true from (beq_iff_eq.mpr c37)]; rfl)) hr (pA b30 0) (by kernel_rfl) fun a hr => ?_
       refine ld (wgt hr (x := !(r7.Done == (decide (((p1.length : Nat) : Int) ≥ r31)))) (c := false) (by rw [show (r7.Done == (decide (((p1.length : Nat) : Int) ≥ r31))) = true from (beq_iff_eq.mpr c37)]; rfl)) hr (vB r20.Done) (h.cell 0 rfl) fun a hr => ?_
       refine opv (wgt hr (x := !(r7.Done == (decide (((p1.length : Nat) : Int) ≥ r31)))) (c := false) (by rw [show (r7.Done == (decide (((p1.length : Nat) : Int) ≥ r31))) = true from (beq_iff_eq.mpr c37)]; rfl)) hr (.slice va2 p2.length vc2) (by kernel_rfl) fun a hr => ?_
       refine opv (wgt hr (x := !(r7.Done == (decide (((p1.length : Nat) : Int) ≥ r31)))) (c := false) (by rw [show (r7.Done == (decide (((p1.length : Nat) : Int) ≥ r31))) = true from (beq_iff_eq.mpr c37)]; rfl)) hr (vI ((p2.length : Nat) : Int)) (by kernel_rfl) fun a hr => ?_
       refine opv (wgt hr (x := !(r7.Done == (decide (((p1.length : Nat) : Int) ≥ r31)))) (c := false) (by rw [show (r7.Done == (decide (((p1.length : Nat) : Int) ≥ r31))) = true from (beq_iff_eq.mpr c37)]; rfl)) hr (vI r31) (by kernel_rfl) fun a hr => ?_
       refine opv (wgt hr (x := !(r7.Done == (decide (((p1.length : Nat) : Int) ≥ r31)))) (c := false) (by rw [show (r7.Done == (decide (((p1.length : Nat) : Int) ≥ r31))) = true from (beq_iff_eq.mpr c37)]; rfl)) hr (vB (decide (((p2.length : Nat) : Int) ≥ r31))) (by kernel_rfl) fun a hr => ?_
       refine opv (wgt hr (x := !(r7.Done == (decide (((p1.length : Nat) : Int) ≥ r31)))) (c := false) (by rw [show (r7.Done == (decide (((p1.length : Nat) : Int) ≥ r31))) = true from (beq_iff_eq.mpr c37)]; rfl)) hr (vB (!(r20.Done == (decide (((p2.length : Nat) : Int) ≥ r31))))) (by kernel_rfl) fun a hr => ?_
       refine opv (wn rfl) hr (vB (!(r20.Done == (decide (((p2.length : Nat) : Int) ≥ r31))))) (rp_f (b := (!(r7.Done == (decide (((p1.length : Nat) : Int) ≥ r31))))) rfl (by kernel_rfl) (by rw [show (r7.Done == (decide (((p1.length : Nat) : Int) ≥ r31))) = true from (beq_iff_eq.mpr c37)]; rfl) (by kernel_rfl)) fun a hr => ?_
       refine ln ?_
       by_cases c38 : r20.Done = (decide (((p2.length : Nat) : Int) ≥ r31))
       ·
        replace H := ifT c38 H
        refine cond_ff hr (b := (!(r20.Done == (decide (((p2.length : Nat) : Int) ≥ r31))))) (by rw [show (r20.Done == (decide (((p2.length : Nat) : Int) ≥ r31))) = true from (beq_iff_eq.mpr c38)]; rfl) ?_
        refine wp_skip ?_
        refine then_normal ?_
        replace hr := hr.fold2 [(8, pA b17 0), (10, pA b30 0)] (by kernel_rfl); obtain ⟨j, hr⟩ := hr
        replace h : Fit z (sepL (ob86 b17 r7 car10 ccr11 car12 ccr13 car14 ccr15 car16 r7.Log.length :: ro3 car10 ccr11 r7.Holders :: rn31 car12 ccr13 r7.Reads :: ro2 car14 ccr15 r7.Marks :: ro96 car16 r7.Log.length r7.Log :: ob86 b30 r20 car23 ccr24 car25 ccr26 car27 ccr28 car29 r20.Log.length :: ro3 car23 ccr24 r20.Holders :: rn31 car25 ccr26 r20.Reads :: ro2 car27 ccr28 r20.Marks :: ro96 car29 r20.Log.length r20.Log :: L)) _ := h.sel 11 [5, 6, 7, 8, 9, 0, 1, 2, 3, 4] (by kernel_rfl) (by kernel_rfl)
        exact ⟨(), sinj H, j, hr, h⟩
       ·
        replace H := ifF c38 H
        refine cond_tt hr (b := (!(r20.Done == (decide (((p2.length : Nat) : Int) ≥ r31))))) (by rw [show (r20.Done == (decide (((p2.length : Nat) : Int) ≥ r31))) = false from (beq_eq_false_iff_ne.mpr c38)]; rfl) ?_
        refine sr ?_
        refine o1 hr (vB false) fun a hr => ?_
        refine ln ?_
        refine wp_ret ?_
        refine then_ret ?_
        refine end_ret1 (v := vB false) rfl hr (by kernel_rfl) ?_
        replace H := jx0 H hK33
        replace h : Fit z (sepL (L)) _ := h.sel 11 [] (by kernel_rfl) (by kernel_rfl)
        replace H := ej1 H; subst H
        exact ⟨rfl, h⟩
      ·
       replace H := ifF c37 H
       refine offg (wgt hr (x := !(r7.Done == (decide (((p1.length : Nat) : Int) ≥ r31)))) (c := true) (by rw [show (r7.Done == (decide (((p1.length : Nat) : Int) ≥ r31))) = false from (beq_eq_false_iff_ne.mpr c37)]; rfl)) hr fun a hr => ?_
       refine offg (wgt hr (x := !(r7.Done == (decide (((p1.length : Nat) : Int) ≥ r31)))) (c := true) (by rw [show (r7.Done == (decide (((p1.length : Nat) : Int) ≥ r31))) = false from (beq_eq_false_iff_ne.mpr c37)]; rfl)) hr fun a hr => ?_
       refine offg (wgt hr (x := !(r7.Done == (decide (((p1.length : Nat) : Int) ≥ r31)))) (c := true) (by rw [show (r7.Done == (decide (((p1.length : Nat) : Int) ≥ r31))) = false from (beq_eq_false_iff_ne.mpr c37)]; rfl)) hr fun a hr => ?_
       refine offg (wgt hr (x := !(r7.Done == (decide (((p1.length : Nat) : Int) ≥ r31)))) (c := true) (by rw [show (r7.Done == (decide (((p1.length : Nat) : Int) ≥ r31))) = false from (beq_eq_false_iff_ne.mpr c37)]; rfl)) hr fun a hr => ?_
       refine offg (wgt hr (x := !(r7.Done == (decide (((p1.length : Nat) : Int) ≥ r31)))) (c := true) (by rw [show (r7.Done == (decide (((p1.length : Nat) : Int) ≥ r31))) = false from (beq_eq_false_iff_ne.mpr c37)]; rfl)) hr fun a hr => ?_
       refine offg (wgt hr (x := !(r7.Done == (decide (((p1.length : Nat) : Int) ≥ r31)))) (c := true) (by rw [show (r7.Done == (decide (((p1.length : Nat) : Int) ≥ r31))) = false from (beq_eq_false_iff_ne.mpr c37)]; rfl)) hr fun a hr => ?_
       refine offg (wgt hr (x := !(r7.Done == (decide (((p1.length : Nat) : Int) ≥ r31)))) (c := true) (by rw [show (r7.Done == (decide (((p1.length : Nat) : Int) ≥ r31))) = false from (beq_eq_false_iff_ne.mpr c37)]; rfl)) hr fun a hr => ?_
       refine opv (wn rfl) hr (vB true) (rp_t (b := (!(r7.Done == (decide (((p1.length : Nat) : Int) ≥ r31))))) rfl (by kernel_rfl) (by rw [show (r7.Done == (decide (((p1.length : Nat) : Int) ≥ r31))) = false from (beq_eq_false_iff_ne.mpr c37)]; rfl) (by kernel_rfl)) fun a hr => ?_
       refine ln ?_
       refine cond_tt hr (b := true) rfl ?_
       refine sr ?_
       refine o1 hr (vB false) fun a hr => ?_
       refine ln ?_
       refine wp_ret ?_
       refine then_ret ?_
       refine end_ret1 (v := vB false) rfl hr (by kernel_rfl) ?_
       replace H := jx0 H hK33
       replace h : Fit z (sepL (L)) _ := h.sel 11 [] (by kernel_rfl) (by kernel_rfl)
       replace H := ej1 H; subst H
       exact ⟨rfl, h⟩
     ·
      replace H := ifF c36 H
      refine offg (wgt hr (bne_iff_ne.mpr c36)) hr fun a hr => ?_
      refine offg (wgt hr (bne_iff_ne.mpr c36)) hr fun a hr => ?_
      refine offg (wgt hr (bne_iff_ne.mpr c36)) hr fun a hr => ?_
      refine offg (wgt hr (bne_iff_ne.mpr c36)) hr fun a hr => ?_
      refine offg (wgt hr (bne_iff_ne.mpr c36)) hr fun a hr => ?_
      refine offg (wgt hr (bne_iff_ne.mpr c36)) hr fun a hr => ?_
      refine offg (wgt hr (bne_iff_ne.mpr c36)) hr fun a hr => ?_
      refine opv (wn rfl) hr (vB true) (rp_t (b := (r21 != 0)) rfl (by kernel_rfl) (bne_iff_ne.mpr c36) (by kernel_rfl)) fun a hr => ?_
      refine o1 hr (vB true) fun a hr => ?_
      refine offg (wgt hr (c := true) rfl) hr fun a hr => ?_
      refine offg (wgt hr (c := true) rfl) hr fun a hr => ?_
      refine offg (wgt hr (c := true) rfl) hr fun a hr => ?_
      refine offg (wgt hr (c := true) rfl) hr fun a hr => ?_
      refine offg (wgt hr (c := true) rfl) hr fun a hr => ?_
      refine offg (wgt hr (c := true) rfl) hr fun a hr => ?_
      refine offg (wgt hr (c := true) rfl) hr fun a hr => ?_
      refine o1 hr (vB true) fun a hr => ?_
      refine ln ?_
      refine cond_tt hr (b := true) rfl ?_
      refine sr ?_
      refine o1 hr (vB false) fun a hr => ?_
      refine ln ?_
      refine wp_ret ?_
      refine then_ret ?_
      refine end_ret1 (v := vB false) rfl hr (by kernel_rfl) ?_
      replace H := jx0 H hK33
      replace h : Fit z (sepL (L)) _ := h.sel 11 [] (by kernel_rfl) (by kernel_rfl)
      replace H := ej1 H; subst H
      exact ⟨rfl, h⟩
    ·
     replace H := ifF c35 H
     refine offg (wgt hr (bne_iff_ne.mpr c35)) hr fun a hr => ?_
     refine offg (wgt hr (bne_iff_ne.mpr c35)) hr fun a hr => ?_
     refine opv (wn rfl) hr (vB true) (rp_t (b := (r8 != 0)) rfl (by kernel_rfl) (bne_iff_ne.mpr c35) (by kernel_rfl)) fun a hr => ?_
     refine o1 hr (vB true) fun a hr => ?_
     refine offg (wgt hr (c := true) rfl) hr fun a hr => ?_
     refine offg (wgt hr (c := true) rfl) hr fun a hr => ?_
     refine offg (wgt hr (c := true) rfl) hr fun a hr => ?_
     refine offg (wgt hr (c := true) rfl) hr fun a hr => ?_
     refine offg (wgt hr (c := true) rfl) hr fun a hr => ?_
     refine offg (wgt hr (c := true) rfl) hr fun a hr => ?_
     refine offg (wgt hr (c := true) rfl) hr fun a hr => ?_
     refine oo [45, 46] [vB true, vB true] hr fun a hr => ?_
     refine offg (wgt hr (c := true) rfl) hr fun a hr => ?_
     refine offg (wgt hr (c := true) rfl) hr fun a hr => ?_
     refine offg (wgt hr (c := true) rfl) hr fun a hr => ?_
     refine offg (wgt hr (c := true) rfl) hr fun a hr => ?_
     refine offg (wgt hr (c := true) rfl) hr fun a hr => ?_
     refine offg (wgt hr (c := true) rfl) hr fun a hr => ?_
     refine offg (wgt hr (c := true) rfl) hr fun a hr => ?_
     refine o1 hr (vB true) fun a hr => ?_
     refine ln ?_
     refine cond_tt hr (b := true) rfl ?_
     refine sr ?_
     refine o1 hr (vB false) fun a hr => ?_
     refine ln ?_
     refine wp_ret ?_
     refine then_ret ?_
     refine end_ret1 (v := vB false) rfl hr (by kernel_rfl) ?_
     replace H := jx0 H hK33
     replace h : Fit z (sepL (L)) _ := h.sel 11 [] (by kernel_rfl) (by kernel_rfl)
     replace H := ej1 H; subst H
     exact ⟨rfl, h⟩
   clear h hr a; rintro _ a w ⟨rfl, j, hr, h⟩
   replace H := jk0 hK33
   obtain ⟨o40, H, hK39⟩ := jd0 H
   refine cut_rule (β := Unit) (fun _ a w => .inl () = o40 ∧ ∃ j, Rep 82 (lk [(8, pA b17 0), (10, pA b30 0)] j) a ∧ Fit z (sepL (ob86 b17 r7 car10 ccr11 car12 ccr13 car14 ccr15 car16 r7.Log.length :: ro3 car10 ccr11 r7.Holders :: rn31 car12 ccr13 r7.Reads :: ro2 car14 ccr15 r7.Marks :: ro96 car16 r7.Log.length r7.Log :: ob86 b30 r20 car23 ccr24 car25 ccr26 car27 ccr28 car29 r20.Log.length :: ro3 car23 ccr24 r20.Holders :: rn31 car25 ccr26 r20.Reads :: ro2 car27 ccr28 r20.Marks :: ro96 car29 r20.Log.length r20.Log :: L)) w) ?_ ?_
   ·
    refine sr ?_
    refine o1 hr (pA b17 0) fun a hr => ?_
    refine ld (wn rfl) hr (vB r7.Done) (h.cell 0 rfl) fun a hr => ?_
    refine oo [57, 58] [vB (!r7.Done), vB (!r7.Done)] hr fun a hr => ?_
    by_cases c41 : r7.Done = true
    ·
     replace H := ifT c41 H
     refine opv (wgt hr (x := !r7.Done) (c := false) (by rw [show r7.Done = true from (c41)]; rfl)) hr (pA b30 0) (by kernel_rfl) fun a hr => ?_
     refine ld (wgt hr (x := !r7.Done) (c := false) (by rw [show r7.Done = true from (c41)]; rfl)) hr (vB r20.Done) ((h.pick 5).cell 0 rfl) fun a hr => ?_
     refine opv (wgt hr (x := !r7.Done) (c := false) (by rw [show r7.Done = true from (c41)]; rfl)) hr (vB (!r20.Done)) (by kernel_rfl) fun a hr => ?_
     refine opv (wn rfl) hr (vB (!r20.Done)) (rp_f (b := (!r7.Done)) rfl (by kernel_rfl) (by rw [show r7.Done = true from (c41)]; rfl) (by kernel_rfl)) fun a hr => ?_
     refine ln ?_
     by_cases c42 : r20.Done = true
     ·
      replace H := ifT c42 H
      refine cond_ff hr (b := (!r20.Done)) (by rw [show r20.Done = true from (c42)]; rfl) ?_
      refine wp_skip ?_
      refine then_normal ?_
      replace hr := hr.fold2 [(8, pA b17 0), (10, pA b30 0)] (by kernel_rfl); obtain ⟨j, hr⟩ := hr
      exact ⟨(), sinj H, j, hr, h⟩
     ·
      replace H := ifF c42 H
      refine cond_tt hr (b := (!r20.Done)) (by rw [show r20.Done = false from (bF c42)]; rfl) ?_
      refine sr ?_
      refine o1 hr (vB true) fun a hr => ?_
      refine ln ?_
      refine wp_ret ?_
      refine then_ret ?_
      refine end_ret1 (v := vB true) rfl hr (by kernel_rfl) ?_
      replace H := jx0 H hK39
      replace h : Fit z (sepL (L)) _ := h.sel 10 [] (by kernel_rfl) (by kernel_rfl)
      replace H := ej1 H; subst H
      exact ⟨rfl, h⟩
    ·
     replace H := ifF c41 H
     refine offg (wgt hr (x := !r7.Done) (c := true) (by rw [show r7.Done = false from (bF c41)]; rfl)) hr fun a hr => ?_
     refine offg (wgt hr (x := !r7.Done) (c := true) (by rw [show r7.Done = false from (bF c41)]; rfl)) hr fun a hr => ?_
     refine offg (wgt hr (x := !r7.Done) (c := true) (by rw [show r7.Done = false from (bF c41)]; rfl)) hr fun a hr => ?_
     refine opv (wn rfl) hr (vB true) (rp_t (b := (!r7.Done)) rfl (by kernel_rfl) (by rw [show r7.Done = false from (bF c41)]; rfl) (by kernel_rfl)) fun a hr => ?_
     refine ln ?_
     refine cond_tt hr (b := true) rfl ?_
     refine sr ?_
     refine o1 hr (vB true) fun a hr => ?_
     refine ln ?_
     refine wp_ret ?_
     refine then_ret ?_
     refine end_ret1 (v := vB true) rfl hr (by kernel_rfl) ?_
     replace H := jx0 H hK39
     replace h : Fit z (sepL (L)) _ := h.sel 10 [] (by kernel_rfl) (by kernel_rfl)
     replace H := ej1 H; subst H
     exact ⟨rfl, h⟩
   clear h hr a; rintro _ a w ⟨rfl, j, hr, h⟩
   replace H := jk0 hK39
   refine sr ?_
   refine o1 hr (pA b17 1) fun a hr => ?_
   refine ld (wn rfl) hr (vI r7.Steps) (h.cell 1 rfl) fun a hr => ?_
   refine o1 hr (pA b30 1) fun a hr => ?_
   refine ld (wn rfl) hr (vI r20.Steps) ((h.pick 5).cell 1 rfl) fun a hr => ?_
   refine oo [67, 68] [vB (r7.Steps == r20.Steps), vB (r7.Steps == r20.Steps)] hr fun a hr => ?_
   by_cases c43 : r7.Steps = r20.Steps
   ·
    replace H := ifT c43 H
    refine opv (wgt hr (beq_iff_eq.mpr c43)) hr (pA b17 3) (by kernel_rfl) fun a hr => ?_
    refine ld (wgt hr (beq_iff_eq.mpr c43)) hr (.slice car12 r7.Reads.length ccr13) (h.cell 3 rfl) fun a hr => ?_
    refine opv (wgt hr (beq_iff_eq.mpr c43)) hr (pA b30 3) (by kernel_rfl) fun a hr => ?_
    refine ld (wgt hr (beq_iff_eq.mpr c43)) hr (.slice car25 r20.Reads.length ccr26) ((h.pick 5).cell 3 rfl) fun a hr => ?_
    obtain ⟨r44, e45, H⟩ := bd1 H
    replace h : Fit z (sepL (rn31 car12 ccr13 r7.Reads :: rn31 car25 ccr26 r20.Reads :: ob86 b17 r7 car10 ccr11 car12 ccr13 car14 ccr15 car16 r7.Log.length :: ro3 car10 ccr11 r7.Holders :: ro2 car14 ccr15 r7.Marks :: ro96 car16 r7.Log.length r7.Log :: ob86 b30 r20 car23 ccr24 car25 ccr26 car27 ccr28 car29 r20.Log.length :: ro3 car23 ccr24 r20.Holders :: ro2 car27 ccr28 r20.Marks :: ro96 car29 r20.Log.length r20.Log :: L)) _ := h.sel 10 [2, 7, 0, 1, 3, 4, 5, 6, 8, 9] (by kernel_rfl) (by kernel_rfl)
    have hc := plunderlaw8_sameReads_ok (H := e45) (h := h)
    refine cl (wgt hr (beq_iff_eq.mpr c43)) hr hc ?_; clear hc h
    rintro _ w ⟨rfl, h⟩; refine ⟨_, rfl, fun a hr => ?_⟩
    refine opv (wn rfl) hr (vB r44) (rp_t (b := (r7.Steps == r20.Steps)) rfl (by kernel_rfl) (beq_iff_eq.mpr c43) (by kernel_rfl)) fun a hr => ?_
    refine o1 hr (vB r44) fun a hr => ?_
    by_cases c46 : r44 = true
    ·
     replace H := ifT c46 H
     refine opv (wgt hr (c46)) hr (pA b17 4) (by kernel_rfl) fun a hr => ?_
     refine ld (wgt hr (c46)) hr (.slice car14 r7.Marks.length ccr15) ((h.pick 2).cell 4 rfl) fun a hr => ?_
     refine opv (wgt hr (c46)) hr (pA b30 4) (by kernel_rfl) fun a hr => ?_
     refine ld (wgt hr (c46)) hr (.slice car27 r20.Marks.length ccr28) ((h.pick 6).cell 4 rfl) fun a hr => ?_
     obtain ⟨r47, e48, H⟩ := bd1 H
     have hc := plunderlaw8_sameNumbers_ok (va0 := car14) (vc0 := ccr15) (va1 := car27) (vc1 := ccr28) (hv0 := (RdRow.of_row encZ_i64_ok (h.pick 4) (fun h => (h.pick 4)))) (hv1 := (RdRow.of_row encZ_i64_ok (h.pick 8) (fun h => (h.pick 8)))) (H := e48) (h := h)
     refine cl (wgt hr (c46)) hr hc ?_; clear hc h
     rintro _ w ⟨rfl, h⟩; refine ⟨_, rfl, fun a hr => ?_⟩
     refine opv (wn rfl) hr (vB r47) (rp_t (b := r44) rfl (by kernel_rfl) (c46) (by kernel_rfl)) fun a hr => ?_
     refine o1 hr (vB r47) fun a hr => ?_
     refine ln ?_
     refine wp_ret ?_
     refine end_ret1 (v := vB r47) rfl hr (by kernel_rfl) ?_
     replace h : Fit z (sepL (L)) _ := h.sel 10 [] (by kernel_rfl) (by kernel_rfl)
     replace H := ej1 H; subst H
     exact ⟨rfl, h⟩
    ·
     replace H := ifF c46 H
     refine offg (wgt hr (bF c46)) hr fun a hr => ?_
     refine offg (wgt hr (bF c46)) hr fun a hr => ?_
     refine offg (wgt hr (bF c46)) hr fun a hr => ?_
     refine offg (wgt hr (bF c46)) hr fun a hr => ?_
     refine offg (wgt hr (bF c46)) hr fun a hr => ?_
     refine opv (wn rfl) hr (vB false) (rp_f (b := r44) rfl (by kernel_rfl) (bF c46) (by kernel_rfl)) fun a hr => ?_
     refine o1 hr (vB false) fun a hr => ?_
     refine ln ?_
     refine wp_ret ?_
     refine end_ret1 (v := vB false) rfl hr (by kernel_rfl) ?_
     replace h : Fit z (sepL (L)) _ := h.sel 10 [] (by kernel_rfl) (by kernel_rfl)
     replace H := ej1 H; subst H
     exact ⟨rfl, h⟩
   ·
    replace H := ifF c43 H
    refine offg (wgt hr (beq_eq_false_iff_ne.mpr c43)) hr fun a hr => ?_
    refine offg (wgt hr (beq_eq_false_iff_ne.mpr c43)) hr fun a hr => ?_
    refine offg (wgt hr (beq_eq_false_iff_ne.mpr c43)) hr fun a hr => ?_
    refine offg (wgt hr (beq_eq_false_iff_ne.mpr c43)) hr fun a hr => ?_
    refine offg (wgt hr (beq_eq_false_iff_ne.mpr c43)) hr fun a hr => ?_
    refine opv (wn rfl) hr (vB false) (rp_f (b := (r7.Steps == r20.Steps)) rfl (by kernel_rfl) (beq_eq_false_iff_ne.mpr c43) (by kernel_rfl)) fun a hr => ?_
    refine o1 hr (vB false) fun a hr => ?_
    refine offg (wgt hr (c := false) rfl) hr fun a hr => ?_
    refine offg (wgt hr (c := false) rfl) hr fun a hr => ?_
    refine offg (wgt hr (c := false) rfl) hr fun a hr => ?_
    refine offg (wgt hr (c := false) rfl) hr fun a hr => ?_
    refine offg (wgt hr (c := false) rfl) hr fun a hr => ?_
    refine oo [81, 6] [vB false, vB false] hr fun a hr => ?_
    refine ln ?_
    refine wp_ret ?_
    refine end_ret1 (v := vB false) rfl hr (by kernel_rfl) ?_
    replace h : Fit z (sepL (L)) _ := h.sel 10 [] (by kernel_rfl) (by kernel_rfl)
    replace H := ej1 H; subst H
    exact ⟨rfl, h⟩
  ·
   replace H := ifF c18 H
   refine cond_ff hr (decide_eq_false c18) ?_
   refine wp_skip ?_
   refine then_normal ?_
   refine sr ?_
   refine oo [8, 2] [.slice va2 p2.length vc2, .slice va2 p2.length vc2] hr fun a hr => ?_
   refine ln ?_
   refine wp_ret ?_
   refine end_ret1 (v := .slice va2 p2.length vc2) rfl hr (by kernel_rfl) ?_
   refine ⟨_, rfl, ?_⟩; clear hr a; intro a hr
   obtain ⟨r49, r50, e51, H⟩ := bd2 H
   have hc := frames_Play_ok (va0 := car3) (vc0 := ccr4) (va1 := va2) (vc1 := vc2) (hv0 := (RdRow.of_row encZ_i64_ok (h.pick 5) (fun h => (h.pick 5)))) (hv1 := (RdRow.up 6 hv2)) (H := e51) (h := h)
   refine cl (wn rfl) hr hc ?_; clear hc h
   rintro _ w ⟨car52, ccr53, car54, ccr55, car56, ccr57, car58, rfl, h⟩; refine ⟨_, rfl, fun a hr => ?_⟩
   refine oo [22, 27, 28] [.tuple #[.agg #[vB r49.Done, vI r49.Steps, .slice car52 r49.Holders.length ccr53, .slice car54 r49.Reads.length ccr55, .slice car56 r49.Marks.length ccr57, .slice car58 r49.Log.length r49.Log.length], vI r50], .agg #[vB r49.Done, vI r49.Steps, .slice car52 r49.Holders.length ccr53, .slice car54 r49.Reads.length ccr55, .slice car56 r49.Marks.length ccr57, .slice car58 r49.Log.length r49.Log.length], vI r50] hr fun a hr => ?_
   refine onew (wn rfl) hr h nb (#[vB false, vI 0, .slice none 0 0, .slice none 0 0, .slice none 0 0, .slice none 0 0]) 86 fun b59 w a h hr => ?_
   refine stos (wn rfl) hr h 0 ([vB r49.Done, vI r49.Steps, .slice car52 r49.Holders.length ccr53, .slice car54 r49.Reads.length ccr55, .slice car56 r49.Marks.length ccr57, .slice car58 r49.Log.length r49.Log.length]) (#[vB r49.Done, vI r49.Steps, .slice car52 r49.Holders.length ccr53, .slice car54 r49.Reads.length ccr55, .slice car56 r49.Marks.length ccr57, .slice car58 r49.Log.length r49.Log.length]) fun w h => ?_
   refine o1 hr (vI r50) fun a hr => ?_
   refine wpList_nil ?_
   replace h : Fit z (sepL (ob86 b59 r49 car52 ccr53 car54 ccr55 car56 ccr57 car58 r49.Log.length :: ro3 car52 ccr53 r49.Holders :: rn31 car54 ccr55 r49.Reads :: ro2 car56 ccr57 r49.Marks :: ro96 car58 r49.Log.length r49.Log :: ob86 b17 r7 car10 ccr11 car12 ccr13 car14 ccr15 car16 r7.Log.length :: ro3 car10 ccr11 r7.Holders :: rn31 car12 ccr13 r7.Reads :: ro2 car14 ccr15 r7.Marks :: ro96 car16 r7.Log.length r7.Log :: ro3 car3 ccr4 r1 :: L)) _ := h
   refine then_normal ?_
   refine sr ?_
   obtain ⟨r60, e61, H⟩ := bd1 H
   refine o1 hr (.slice car3 r1.length ccr4) fun a hr => ?_
   have hc := plunderlaw8_length_ok (va0 := car3) (vc0 := ccr4) (hv0 := (RdRow.of_row encZ_i64_ok (h.pick 10) (fun h => (h.pick 10)))) (H := e61) (h := h)
   refine cl (wn rfl) hr hc ?_; clear hc h
   rintro _ w ⟨rfl, h⟩; refine ⟨_, rfl, fun a hr => ?_⟩
   refine o1 hr (vI r60) fun a hr => ?_
   refine ln ?_
   obtain ⟨o63, H, hK62⟩ := jd0 H
   refine cut_rule (β := Unit) (fun _ a w => .inl () = o63 ∧ ∃ j, Rep 82 (lk [(8, pA b17 0), (10, pA b59 0)] j) a ∧ Fit z (sepL (ob86 b17 r7 car10 ccr11 car12 ccr13 car14 ccr15 car16 r7.Log.length :: ro3 car10 ccr11 r7.Holders :: rn31 car12 ccr13 r7.Reads :: ro2 car14 ccr15 r7.Marks :: ro96 car16 r7.Log.length r7.Log :: ob86 b59 r49 car52 ccr53 car54 ccr55 car56 ccr57 car58 r49.Log.length :: ro3 car52 ccr53 r49.Holders :: rn31 car54 ccr55 r49.Reads :: ro2 car56 ccr57 r49.Marks :: ro96 car58 r49.Log.length r49.Log :: L)) w) ?_ ?_
   ·
    refine sr ?_
    refine oo [31, 32, 33] [vI r8, vB (r8 != 0), vB (r8 != 0)] hr fun a hr => ?_
    by_cases c64 : r8 = 0
    ·
     replace H := ifT c64 H
     refine opv (wgt hr (bne_eq_false_iff_eq.mpr c64)) hr (vI r50) (by kernel_rfl) fun a hr => ?_
     refine opv (wgt hr (bne_eq_false_iff_eq.mpr c64)) hr (vB (r50 != 0)) (by kernel_rfl) fun a hr => ?_
     refine opv (wn rfl) hr (vB (r50 != 0)) (rp_f (b := (r8 != 0)) rfl (by kernel_rfl) (bne_eq_false_iff_eq.mpr c64) (by kernel_rfl)) fun a hr => ?_
     refine o1 hr (vB (r50 != 0)) fun a hr => ?_
     by_cases c65 : r50 = 0
     ·
      replace H := ifT c65 H
      refine opv (wgt hr (bne_eq_false_iff_eq.mpr c65)) hr (pA b17 0) (by kernel_rfl) fun a hr => ?_
      refine ld (wgt hr (bne_eq_false_iff_eq.mpr c65)) hr (vB r7.Done) ((h.pick 5).cell 0 rfl) fun a hr => ?_
      refine opv (wgt hr (bne_eq_false_iff_eq.mpr c65)) hr (.slice va1 p1.length vc1) (by kernel_rfl) fun a hr => ?_
      refine opv (wgt hr (bne_eq_false_iff_eq.mpr c65)) hr (vI ((p1.length : Nat) : Int)) (by kernel_rfl) fun a hr => ?_
      refine opv (wgt hr (bne_eq_false_iff_eq.mpr c65)) hr (vI r60) (by kernel_rfl) fun a hr => ?_
      refine opv (wgt hr (bne_eq_false_iff_eq.mpr c65)) hr (vB (decide (((p1.length : Nat) : Int) ≥ r60))) (by kernel_rfl) fun a hr => ?_
      refine opv (wgt hr (bne_eq_false_iff_eq.mpr c65)) hr (vB (!(r7.Done == (decide (((p1.length : Nat) : Int) ≥ r60))))) (by kernel_rfl) fun a hr => ?_
      refine opv (wn rfl) hr (vB (!(r7.Done == (decide (((p1.length : Nat) : Int) ≥ r60))))) (rp_f (b := (r50 != 0)) rfl (by kernel_rfl) (bne_eq_false_iff_eq.mpr c65) (by kernel_rfl)) fun a hr => ?_
      refine o1 hr (vB (!(r7.Done == (decide (((p1.length : Nat) : Int) ≥ r60))))) fun a hr => ?_
      by_cases c66 : r7.Done = (decide (((p1.length : Nat) : Int) ≥ r60))
      ·
       replace H := ifT c66 H
       refine opv (wgt hr (x := !(r7.Done == (decide (((p1.length : Nat) : Int) ≥ r60)))) (c := false) (by rw [show (r7.Done == (decide (((p1.length : Nat) : Int) ≥ r60))) = true from (beq_iff_eq.mpr c66)]; rfl)) hr (pA b59 0) (by kernel_rfl) fun a hr => ?_
       refine ld (wgt hr (x := !(r7.Done == (decide (((p1.length : Nat) : Int) ≥ r60)))) (c := false) (by rw [show (r7.Done == (decide (((p1.length : Nat) : Int) ≥ r60))) = true from (beq_iff_eq.mpr c66)]; rfl)) hr (vB r49.Done) (h.cell 0 rfl) fun a hr => ?_
       refine opv (wgt hr (x := !(r7.Done == (decide (((p1.length : Nat) : Int) ≥ r60)))) (c := false) (by rw [show (r7.Done == (decide (((p1.length : Nat) : Int) ≥ r60))) = true from (beq_iff_eq.mpr c66)]; rfl)) hr (.slice va2 p2.length vc2) (by kernel_rfl) fun a hr => ?_
       refine opv (wgt hr (x := !(r7.Done == (decide (((p1.length : Nat) : Int) ≥ r60)))) (c := false) (by rw [show (r7.Done == (decide (((p1.length : Nat) : Int) ≥ r60))) = true from (beq_iff_eq.mpr c66)]; rfl)) hr (vI ((p2.length : Nat) : Int)) (by kernel_rfl) fun a hr => ?_
       refine opv (wgt hr (x := !(r7.Done == (decide (((p1.length : Nat) : Int) ≥ r60)))) (c := false) (by rw [show (r7.Done == (decide (((p1.length : Nat) : Int) ≥ r60))) = true from (beq_iff_eq.mpr c66)]; rfl)) hr (vI r60) (by kernel_rfl) fun a hr => ?_
       refine opv (wgt hr (x := !(r7.Done == (decide (((p1.length : Nat) : Int) ≥ r60)))) (c := false) (by rw [show (r7.Done == (decide (((p1.length : Nat) : Int) ≥ r60))) = true from (beq_iff_eq.mpr c66)]; rfl)) hr (vB (decide (((p2.length : Nat) : Int) ≥ r60))) (by kernel_rfl) fun a hr => ?_
       refine opv (wgt hr (x := !(r7.Done == (decide (((p1.length : Nat) : Int) ≥ r60)))) (c := false) (by rw [show (r7.Done == (decide (((p1.length : Nat) : Int) ≥ r60))) = true from (beq_iff_eq.mpr c66)]; rfl)) hr (vB (!(r49.Done == (decide (((p2.length : Nat) : Int) ≥ r60))))) (by kernel_rfl) fun a hr => ?_
       refine opv (wn rfl) hr (vB (!(r49.Done == (decide (((p2.length : Nat) : Int) ≥ r60))))) (rp_f (b := (!(r7.Done == (decide (((p1.length : Nat) : Int) ≥ r60))))) rfl (by kernel_rfl) (by rw [show (r7.Done == (decide (((p1.length : Nat) : Int) ≥ r60))) = true from (beq_iff_eq.mpr c66)]; rfl) (by kernel_rfl)) fun a hr => ?_
       refine ln ?_
       by_cases c67 : r49.Done = (decide (((p2.length : Nat) : Int) ≥ r60))
       ·
        replace H := ifT c67 H
        refine cond_ff hr (b := (!(r49.Done == (decide (((p2.length : Nat) : Int) ≥ r60))))) (by rw [show (r49.Done == (decide (((p2.length : Nat) : Int) ≥ r60))) = true from (beq_iff_eq.mpr c67)]; rfl) ?_
        refine wp_skip ?_
        refine then_normal ?_
        replace hr := hr.fold2 [(8, pA b17 0), (10, pA b59 0)] (by kernel_rfl); obtain ⟨j, hr⟩ := hr
        replace h : Fit z (sepL (ob86 b17 r7 car10 ccr11 car12 ccr13 car14 ccr15 car16 r7.Log.length :: ro3 car10 ccr11 r7.Holders :: rn31 car12 ccr13 r7.Reads :: ro2 car14 ccr15 r7.Marks :: ro96 car16 r7.Log.length r7.Log :: ob86 b59 r49 car52 ccr53 car54 ccr55 car56 ccr57 car58 r49.Log.length :: ro3 car52 ccr53 r49.Holders :: rn31 car54 ccr55 r49.Reads :: ro2 car56 ccr57 r49.Marks :: ro96 car58 r49.Log.length r49.Log :: L)) _ := h.sel 11 [5, 6, 7, 8, 9, 0, 1, 2, 3, 4] (by kernel_rfl) (by kernel_rfl)
        exact ⟨(), sinj H, j, hr, h⟩
       ·
        replace H := ifF c67 H
        refine cond_tt hr (b := (!(r49.Done == (decide (((p2.length : Nat) : Int) ≥ r60))))) (by rw [show (r49.Done == (decide (((p2.length : Nat) : Int) ≥ r60))) = false from (beq_eq_false_iff_ne.mpr c67)]; rfl) ?_
        refine sr ?_
        refine o1 hr (vB false) fun a hr => ?_
        refine ln ?_
        refine wp_ret ?_
        refine then_ret ?_
        refine end_ret1 (v := vB false) rfl hr (by kernel_rfl) ?_
        replace H := jx0 H hK62
        replace h : Fit z (sepL (L)) _ := h.sel 11 [] (by kernel_rfl) (by kernel_rfl)
        replace H := ej1 H; subst H
        exact ⟨rfl, h⟩
      ·
       replace H := ifF c66 H
       refine offg (wgt hr (x := !(r7.Done == (decide (((p1.length : Nat) : Int) ≥ r60)))) (c := true) (by rw [show (r7.Done == (decide (((p1.length : Nat) : Int) ≥ r60))) = false from (beq_eq_false_iff_ne.mpr c66)]; rfl)) hr fun a hr => ?_
       refine offg (wgt hr (x := !(r7.Done == (decide (((p1.length : Nat) : Int) ≥ r60)))) (c := true) (by rw [show (r7.Done == (decide (((p1.length : Nat) : Int) ≥ r60))) = false from (beq_eq_false_iff_ne.mpr c66)]; rfl)) hr fun a hr => ?_
       refine offg (wgt hr (x := !(r7.Done == (decide (((p1.length : Nat) : Int) ≥ r60)))) (c := true) (by rw [show (r7.Done == (decide (((p1.length : Nat) : Int) ≥ r60))) = false from (beq_eq_false_iff_ne.mpr c66)]; rfl)) hr fun a hr => ?_
       refine offg (wgt hr (x := !(r7.Done == (decide (((p1.length : Nat) : Int) ≥ r60)))) (c := true) (by rw [show (r7.Done == (decide (((p1.length : Nat) : Int) ≥ r60))) = false from (beq_eq_false_iff_ne.mpr c66)]; rfl)) hr fun a hr => ?_
       refine offg (wgt hr (x := !(r7.Done == (decide (((p1.length : Nat) : Int) ≥ r60)))) (c := true) (by rw [show (r7.Done == (decide (((p1.length : Nat) : Int) ≥ r60))) = false from (beq_eq_false_iff_ne.mpr c66)]; rfl)) hr fun a hr => ?_
       refine offg (wgt hr (x := !(r7.Done == (decide (((p1.length : Nat) : Int) ≥ r60)))) (c := true) (by rw [show (r7.Done == (decide (((p1.length : Nat) : Int) ≥ r60))) = false from (beq_eq_false_iff_ne.mpr c66)]; rfl)) hr fun a hr => ?_
       refine offg (wgt hr (x := !(r7.Done == (decide (((p1.length : Nat) : Int) ≥ r60)))) (c := true) (by rw [show (r7.Done == (decide (((p1.length : Nat) : Int) ≥ r60))) = false from (beq_eq_false_iff_ne.mpr c66)]; rfl)) hr fun a hr => ?_
       refine opv (wn rfl) hr (vB true) (rp_t (b := (!(r7.Done == (decide (((p1.length : Nat) : Int) ≥ r60))))) rfl (by kernel_rfl) (by rw [show (r7.Done == (decide (((p1.length : Nat) : Int) ≥ r60))) = false from (beq_eq_false_iff_ne.mpr c66)]; rfl) (by kernel_rfl)) fun a hr => ?_
       refine ln ?_
       refine cond_tt hr (b := true) rfl ?_
       refine sr ?_
       refine o1 hr (vB false) fun a hr => ?_
       refine ln ?_
       refine wp_ret ?_
       refine then_ret ?_
       refine end_ret1 (v := vB false) rfl hr (by kernel_rfl) ?_
       replace H := jx0 H hK62
       replace h : Fit z (sepL (L)) _ := h.sel 11 [] (by kernel_rfl) (by kernel_rfl)
       replace H := ej1 H; subst H
       exact ⟨rfl, h⟩
     ·
      replace H := ifF c65 H
      refine offg (wgt hr (bne_iff_ne.mpr c65)) hr fun a hr => ?_
      refine offg (wgt hr (bne_iff_ne.mpr c65)) hr fun a hr => ?_
      refine offg (wgt hr (bne_iff_ne.mpr c65)) hr fun a hr => ?_
      refine offg (wgt hr (bne_iff_ne.mpr c65)) hr fun a hr => ?_
      refine offg (wgt hr (bne_iff_ne.mpr c65)) hr fun a hr => ?_
      refine offg (wgt hr (bne_iff_ne.mpr c65)) hr fun a hr => ?_
      refine offg (wgt hr (bne_iff_ne.mpr c65)) hr fun a hr => ?_
      refine opv (wn rfl) hr (vB true) (rp_t (b := (r50 != 0)) rfl (by kernel_rfl) (bne_iff_ne.mpr c65) (by kernel_rfl)) fun a hr => ?_
      refine o1 hr (vB true) fun a hr => ?_
      refine offg (wgt hr (c := true) rfl) hr fun a hr => ?_
      refine offg (wgt hr (c := true) rfl) hr fun a hr => ?_
      refine offg (wgt hr (c := true) rfl) hr fun a hr => ?_
      refine offg (wgt hr (c := true) rfl) hr fun a hr => ?_
      refine offg (wgt hr (c := true) rfl) hr fun a hr => ?_
      refine offg (wgt hr (c := true) rfl) hr fun a hr => ?_
      refine offg (wgt hr (c := true) rfl) hr fun a hr => ?_
      refine o1 hr (vB true) fun a hr => ?_
      refine ln ?_
      refine cond_tt hr (b := true) rfl ?_
      refine sr ?_
      refine o1 hr (vB false) fun a hr => ?_
      refine ln ?_
      refine wp_ret ?_
      refine then_ret ?_
      refine end_ret1 (v := vB false) rfl hr (by kernel_rfl) ?_
      replace H := jx0 H hK62
      replace h : Fit z (sepL (L)) _ := h.sel 11 [] (by kernel_rfl) (by kernel_rfl)
      replace H := ej1 H; subst H
      exact ⟨rfl, h⟩
    ·
     replace H := ifF c64 H
     refine offg (wgt hr (bne_iff_ne.mpr c64)) hr fun a hr => ?_
     refine offg (wgt hr (bne_iff_ne.mpr c64)) hr fun a hr => ?_
     refine opv (wn rfl) hr (vB true) (rp_t (b := (r8 != 0)) rfl (by kernel_rfl) (bne_iff_ne.mpr c64) (by kernel_rfl)) fun a hr => ?_
     refine o1 hr (vB true) fun a hr => ?_
     refine offg (wgt hr (c := true) rfl) hr fun a hr => ?_
     refine offg (wgt hr (c := true) rfl) hr fun a hr => ?_
     refine offg (wgt hr (c := true) rfl) hr fun a hr => ?_
     refine offg (wgt hr (c := true) rfl) hr fun a hr => ?_
     refine offg (wgt hr (c := true) rfl) hr fun a hr => ?_
     refine offg (wgt hr (c := true) rfl) hr fun a hr => ?_
     refine offg (wgt hr (c := true) rfl) hr fun a hr => ?_
     refine oo [45, 46] [vB true, vB true] hr fun a hr => ?_
     refine offg (wgt hr (c := true) rfl) hr fun a hr => ?_
     refine offg (wgt hr (c := true) rfl) hr fun a hr => ?_
     refine offg (wgt hr (c := true) rfl) hr fun a hr => ?_
     refine offg (wgt hr (c := true) rfl) hr fun a hr => ?_
     refine offg (wgt hr (c := true) rfl) hr fun a hr => ?_
     refine offg (wgt hr (c := true) rfl) hr fun a hr => ?_
     refine offg (wgt hr (c := true) rfl) hr fun a hr => ?_
     refine o1 hr (vB true) fun a hr => ?_
     refine ln ?_
     refine cond_tt hr (b := true) rfl ?_
     refine sr ?_
     refine o1 hr (vB false) fun a hr => ?_
     refine ln ?_
     refine wp_ret ?_
     refine then_ret ?_
     refine end_ret1 (v := vB false) rfl hr (by kernel_rfl) ?_
     replace H := jx0 H hK62
     replace h : Fit z (sepL (L)) _ := h.sel 11 [] (by kernel_rfl) (by kernel_rfl)
     replace H := ej1 H; subst H
     exact ⟨rfl, h⟩
   clear h hr a; rintro _ a w ⟨rfl, j, hr, h⟩
   replace H := jk0 hK62
   obtain ⟨o69, H, hK68⟩ := jd0 H
   refine cut_rule (β := Unit) (fun _ a w => .inl () = o69 ∧ ∃ j, Rep 82 (lk [(8, pA b17 0), (10, pA b59 0)] j) a ∧ Fit z (sepL (ob86 b17 r7 car10 ccr11 car12 ccr13 car14 ccr15 car16 r7.Log.length :: ro3 car10 ccr11 r7.Holders :: rn31 car12 ccr13 r7.Reads :: ro2 car14 ccr15 r7.Marks :: ro96 car16 r7.Log.length r7.Log :: ob86 b59 r49 car52 ccr53 car54 ccr55 car56 ccr57 car58 r49.Log.length :: ro3 car52 ccr53 r49.Holders :: rn31 car54 ccr55 r49.Reads :: ro2 car56 ccr57 r49.Marks :: ro96 car58 r49.Log.length r49.Log :: L)) w) ?_ ?_
   ·
    refine sr ?_
    refine o1 hr (pA b17 0) fun a hr => ?_
    refine ld (wn rfl) hr (vB r7.Done) (h.cell 0 rfl) fun a hr => ?_
    refine oo [57, 58] [vB (!r7.Done), vB (!r7.Done)] hr fun a hr => ?_
    by_cases c70 : r7.Done = true
    ·
     replace H := ifT c70 H
     refine opv (wgt hr (x := !r7.Done) (c := false) (by rw [show r7.Done = true from (c70)]; rfl)) hr (pA b59 0) (by kernel_rfl) fun a hr => ?_
     refine ld (wgt hr (x := !r7.Done) (c := false) (by rw [show r7.Done = true from (c70)]; rfl)) hr (vB r49.Done) ((h.pick 5).cell 0 rfl) fun a hr => ?_
     refine opv (wgt hr (x := !r7.Done) (c := false) (by rw [show r7.Done = true from (c70)]; rfl)) hr (vB (!r49.Done)) (by kernel_rfl) fun a hr => ?_
     refine opv (wn rfl) hr (vB (!r49.Done)) (rp_f (b := (!r7.Done)) rfl (by kernel_rfl) (by rw [show r7.Done = true from (c70)]; rfl) (by kernel_rfl)) fun a hr => ?_
     refine ln ?_
     by_cases c71 : r49.Done = true
     ·
      replace H := ifT c71 H
      refine cond_ff hr (b := (!r49.Done)) (by rw [show r49.Done = true from (c71)]; rfl) ?_
      refine wp_skip ?_
      refine then_normal ?_
      replace hr := hr.fold2 [(8, pA b17 0), (10, pA b59 0)] (by kernel_rfl); obtain ⟨j, hr⟩ := hr
      exact ⟨(), sinj H, j, hr, h⟩
     ·
      replace H := ifF c71 H
      refine cond_tt hr (b := (!r49.Done)) (by rw [show r49.Done = false from (bF c71)]; rfl) ?_
      refine sr ?_
      refine o1 hr (vB true) fun a hr => ?_
      refine ln ?_
      refine wp_ret ?_
      refine then_ret ?_
      refine end_ret1 (v := vB true) rfl hr (by kernel_rfl) ?_
      replace H := jx0 H hK68
      replace h : Fit z (sepL (L)) _ := h.sel 10 [] (by kernel_rfl) (by kernel_rfl)
      replace H := ej1 H; subst H
      exact ⟨rfl, h⟩
    ·
     replace H := ifF c70 H
     refine offg (wgt hr (x := !r7.Done) (c := true) (by rw [show r7.Done = false from (bF c70)]; rfl)) hr fun a hr => ?_
     refine offg (wgt hr (x := !r7.Done) (c := true) (by rw [show r7.Done = false from (bF c70)]; rfl)) hr fun a hr => ?_
     refine offg (wgt hr (x := !r7.Done) (c := true) (by rw [show r7.Done = false from (bF c70)]; rfl)) hr fun a hr => ?_
     refine opv (wn rfl) hr (vB true) (rp_t (b := (!r7.Done)) rfl (by kernel_rfl) (by rw [show r7.Done = false from (bF c70)]; rfl) (by kernel_rfl)) fun a hr => ?_
     refine ln ?_
     refine cond_tt hr (b := true) rfl ?_
     refine sr ?_
     refine o1 hr (vB true) fun a hr => ?_
     refine ln ?_
     refine wp_ret ?_
     refine then_ret ?_
     refine end_ret1 (v := vB true) rfl hr (by kernel_rfl) ?_
     replace H := jx0 H hK68
     replace h : Fit z (sepL (L)) _ := h.sel 10 [] (by kernel_rfl) (by kernel_rfl)
     replace H := ej1 H; subst H
     exact ⟨rfl, h⟩
   clear h hr a; rintro _ a w ⟨rfl, j, hr, h⟩
   replace H := jk0 hK68
   refine sr ?_
   refine o1 hr (pA b17 1) fun a hr => ?_
   refine ld (wn rfl) hr (vI r7.Steps) (h.cell 1 rfl) fun a hr => ?_
   refine o1 hr (pA b59 1) fun a hr => ?_
   refine ld (wn rfl) hr (vI r49.Steps) ((h.pick 5).cell 1 rfl) fun a hr => ?_
   refine oo [67, 68] [vB (r7.Steps == r49.Steps), vB (r7.Steps == r49.Steps)] hr fun a hr => ?_
   by_cases c72 : r7.Steps = r49.Steps
   ·
    replace H := ifT c72 H
    refine opv (wgt hr (beq_iff_eq.mpr c72)) hr (pA b17 3) (by kernel_rfl) fun a hr => ?_
    refine ld (wgt hr (beq_iff_eq.mpr c72)) hr (.slice car12 r7.Reads.length ccr13) (h.cell 3 rfl) fun a hr => ?_
    refine opv (wgt hr (beq_iff_eq.mpr c72)) hr (pA b59 3) (by kernel_rfl) fun a hr => ?_
    refine ld (wgt hr (beq_iff_eq.mpr c72)) hr (.slice car54 r49.Reads.length ccr55) ((h.pick 5).cell 3 rfl) fun a hr => ?_
    obtain ⟨r73, e74, H⟩ := bd1 H
    replace h : Fit z (sepL (rn31 car12 ccr13 r7.Reads :: rn31 car54 ccr55 r49.Reads :: ob86 b17 r7 car10 ccr11 car12 ccr13 car14 ccr15 car16 r7.Log.length :: ro3 car10 ccr11 r7.Holders :: ro2 car14 ccr15 r7.Marks :: ro96 car16 r7.Log.length r7.Log :: ob86 b59 r49 car52 ccr53 car54 ccr55 car56 ccr57 car58 r49.Log.length :: ro3 car52 ccr53 r49.Holders :: ro2 car56 ccr57 r49.Marks :: ro96 car58 r49.Log.length r49.Log :: L)) _ := h.sel 10 [2, 7, 0, 1, 3, 4, 5, 6, 8, 9] (by kernel_rfl) (by kernel_rfl)
    have hc := plunderlaw8_sameReads_ok (H := e74) (h := h)
    refine cl (wgt hr (beq_iff_eq.mpr c72)) hr hc ?_; clear hc h
    rintro _ w ⟨rfl, h⟩; refine ⟨_, rfl, fun a hr => ?_⟩
    refine opv (wn rfl) hr (vB r73) (rp_t (b := (r7.Steps == r49.Steps)) rfl (by kernel_rfl) (beq_iff_eq.mpr c72) (by kernel_rfl)) fun a hr => ?_
    refine o1 hr (vB r73) fun a hr => ?_
    by_cases c75 : r73 = true
    ·
     replace H := ifT c75 H
     refine opv (wgt hr (c75)) hr (pA b17 4) (by kernel_rfl) fun a hr => ?_
     refine ld (wgt hr (c75)) hr (.slice car14 r7.Marks.length ccr15) ((h.pick 2).cell 4 rfl) fun a hr => ?_
     refine opv (wgt hr (c75)) hr (pA b59 4) (by kernel_rfl) fun a hr => ?_
     refine ld (wgt hr (c75)) hr (.slice car56 r49.Marks.length ccr57) ((h.pick 6).cell 4 rfl) fun a hr => ?_
     obtain ⟨r76, e77, H⟩ := bd1 H
     have hc := plunderlaw8_sameNumbers_ok (va0 := car14) (vc0 := ccr15) (va1 := car56) (vc1 := ccr57) (hv0 := (RdRow.of_row encZ_i64_ok (h.pick 4) (fun h => (h.pick 4)))) (hv1 := (RdRow.of_row encZ_i64_ok (h.pick 8) (fun h => (h.pick 8)))) (H := e77) (h := h)
     refine cl (wgt hr (c75)) hr hc ?_; clear hc h
     rintro _ w ⟨rfl, h⟩; refine ⟨_, rfl, fun a hr => ?_⟩
     refine opv (wn rfl) hr (vB r76) (rp_t (b := r73) rfl (by kernel_rfl) (c75) (by kernel_rfl)) fun a hr => ?_
     refine o1 hr (vB r76) fun a hr => ?_
     refine ln ?_
     refine wp_ret ?_
     refine end_ret1 (v := vB r76) rfl hr (by kernel_rfl) ?_
     replace h : Fit z (sepL (L)) _ := h.sel 10 [] (by kernel_rfl) (by kernel_rfl)
     replace H := ej1 H; subst H
     exact ⟨rfl, h⟩
    ·
     replace H := ifF c75 H
     refine offg (wgt hr (bF c75)) hr fun a hr => ?_
     refine offg (wgt hr (bF c75)) hr fun a hr => ?_
     refine offg (wgt hr (bF c75)) hr fun a hr => ?_
     refine offg (wgt hr (bF c75)) hr fun a hr => ?_
     refine offg (wgt hr (bF c75)) hr fun a hr => ?_
     refine opv (wn rfl) hr (vB false) (rp_f (b := r73) rfl (by kernel_rfl) (bF c75) (by kernel_rfl)) fun a hr => ?_
     refine o1 hr (vB false) fun a hr => ?_
     refine ln ?_
     refine wp_ret ?_
     refine end_ret1 (v := vB false) rfl hr (by kernel_rfl) ?_
     replace h : Fit z (sepL (L)) _ := h.sel 10 [] (by kernel_rfl) (by kernel_rfl)
     replace H := ej1 H; subst H
     exact ⟨rfl, h⟩
   ·
    replace H := ifF c72 H
    refine offg (wgt hr (beq_eq_false_iff_ne.mpr c72)) hr fun a hr => ?_
    refine offg (wgt hr (beq_eq_false_iff_ne.mpr c72)) hr fun a hr => ?_
    refine offg (wgt hr (beq_eq_false_iff_ne.mpr c72)) hr fun a hr => ?_
    refine offg (wgt hr (beq_eq_false_iff_ne.mpr c72)) hr fun a hr => ?_
    refine offg (wgt hr (beq_eq_false_iff_ne.mpr c72)) hr fun a hr => ?_
    refine opv (wn rfl) hr (vB false) (rp_f (b := (r7.Steps == r49.Steps)) rfl (by kernel_rfl) (beq_eq_false_iff_ne.mpr c72) (by kernel_rfl)) fun a hr => ?_
    refine o1 hr (vB false) fun a hr => ?_
    refine offg (wgt hr (c := false) rfl) hr fun a hr => ?_
    refine offg (wgt hr (c := false) rfl) hr fun a hr => ?_
    refine offg (wgt hr (c := false) rfl) hr fun a hr => ?_
    refine offg (wgt hr (c := false) rfl) hr fun a hr => ?_
    refine offg (wgt hr (c := false) rfl) hr fun a hr => ?_
    refine oo [81, 6] [vB false, vB false] hr fun a hr => ?_
    refine ln ?_
    refine wp_ret ?_
    refine end_ret1 (v := vB false) rfl hr (by kernel_rfl) ?_
    replace h : Fit z (sepL (L)) _ := h.sel 10 [] (by kernel_rfl) (by kernel_rfl)
    replace H := ej1 H; subst H
    exact ⟨rfl, h⟩
 ·
  replace H := ifF c5 H
  refine cond_ff hr (decide_eq_false c5) ?_
  refine wp_skip ?_
  refine then_normal ?_
  refine sr ?_
  refine oo [8, 2] [.slice va1 p1.length vc1, .slice va1 p1.length vc1] hr fun a hr => ?_
  refine ln ?_
  refine wp_ret ?_
  refine end_ret1 (v := .slice va1 p1.length vc1) rfl hr (by kernel_rfl) ?_
  refine ⟨_, rfl, ?_⟩; clear hr a; intro a hr
  obtain ⟨r78, r79, e80, H⟩ := bd2 H
  have hc := frames_Play_ok (va0 := car3) (vc0 := ccr4) (va1 := va1) (vc1 := vc1) (hv0 := (RdRow.of_row encZ_i64_ok h (fun h => h))) (hv1 := (RdRow.up 1 hv1)) (H := e80) (h := h)
  refine cl (wn rfl) hr hc ?_; clear hc h
  rintro _ w ⟨car81, ccr82, car83, ccr84, car85, ccr86, car87, rfl, h⟩; refine ⟨_, rfl, fun a hr => ?_⟩
  refine oo [15, 20, 21] [.tuple #[.agg #[vB r78.Done, vI r78.Steps, .slice car81 r78.Holders.length ccr82, .slice car83 r78.Reads.length ccr84, .slice car85 r78.Marks.length ccr86, .slice car87 r78.Log.length r78.Log.length], vI r79], .agg #[vB r78.Done, vI r78.Steps, .slice car81 r78.Holders.length ccr82, .slice car83 r78.Reads.length ccr84, .slice car85 r78.Marks.length ccr86, .slice car87 r78.Log.length r78.Log.length], vI r79] hr fun a hr => ?_
  refine onew (wn rfl) hr h nb (#[vB false, vI 0, .slice none 0 0, .slice none 0 0, .slice none 0 0, .slice none 0 0]) 86 fun b88 w a h hr => ?_
  refine stos (wn rfl) hr h 0 ([vB r78.Done, vI r78.Steps, .slice car81 r78.Holders.length ccr82, .slice car83 r78.Reads.length ccr84, .slice car85 r78.Marks.length ccr86, .slice car87 r78.Log.length r78.Log.length]) (#[vB r78.Done, vI r78.Steps, .slice car81 r78.Holders.length ccr82, .slice car83 r78.Reads.length ccr84, .slice car85 r78.Marks.length ccr86, .slice car87 r78.Log.length r78.Log.length]) fun w h => ?_
  refine o1 hr (vI r79) fun a hr => ?_
  refine wpList_nil ?_
  replace h : Fit z (sepL (ob86 b88 r78 car81 ccr82 car83 ccr84 car85 ccr86 car87 r78.Log.length :: ro3 car81 ccr82 r78.Holders :: rn31 car83 ccr84 r78.Reads :: ro2 car85 ccr86 r78.Marks :: ro96 car87 r78.Log.length r78.Log :: ro3 car3 ccr4 r1 :: L)) _ := h
  refine then_normal ?_
  refine sr ?_
  refine oo [23, 24] [.slice car3 r1.length ccr4, .slice va2 p2.length vc2] hr fun a hr => ?_
  refine op_inl (wn rfl) rfl rfl hr (f := 50) (args := #[.slice va2 p2.length vc2]) (by kernel_rfl) ?_; clear hr a
  refine enter Try.func50 rfl 9 rfl rfl [(0, .slice va2 p2.length vc2)] ⟨by kernel_rfl, trivial⟩ ?_; intro j a hr
  refine sr ?_
  refine o1 hr (.slice none 0 0) fun a hr => ?_
  refine ln ?_
  refine wp_seq ?_
  refine sr ?_
  refine oo [3, 4, 5] [.slice va2 p2.length vc2, vI ((p2.length : Nat) : Int), vB (decide (((p2.length : Nat) : Int) > 1048576))] hr fun a hr => ?_
  refine ln ?_
  by_cases c89 : ((p2.length : Nat) : Int) > 1048576
  ·
   replace H := ifT c89 H
   refine cond_tt hr (decide_eq_true c89) ?_
   refine sr ?_
   obtain ⟨c90, H⟩ := gd H
   refine o1 hr (.slice va2 p2.length vc2) fun a hr => ?_
   refine opv (wn rfl) hr (.slice va2 (p2.take 1048576).length vc2) (rslr (k := .i64) (E := 3) (sz := 1) (xs := p2) rfl (by kernel_rfl) (by kernel_rfl) (by kernel_rfl) (by kernel_rfl) hc2 c90) fun a hr => ?_
   refine o1 hr (.slice va2 (p2.take 1048576).length vc2) fun a hr => ?_
   refine ln ?_
   refine wp_ret ?_
   refine then_ret ?_
   refine end_ret1 (v := .slice va2 (p2.take 1048576).length vc2) rfl hr (by kernel_rfl) ?_
   refine ⟨_, rfl, ?_⟩; clear hr a; intro a hr
   obtain ⟨r91, r92, e93, H⟩ := bd2 H
   have hc := frames_Play_ok (va0 := car3) (vc0 := ccr4) (va1 := va2) (vc1 := vc2) (hv0 := (RdRow.of_row encZ_i64_ok (h.pick 5) (fun h => (h.pick 5)))) (hv1 := (RdRow.up 6 (RdRow.take hv2 _))) (H := e93) (h := h)
   refine cl (wn rfl) hr hc ?_; clear hc h
   rintro _ w ⟨car94, ccr95, car96, ccr97, car98, ccr99, car100, rfl, h⟩; refine ⟨_, rfl, fun a hr => ?_⟩
   refine oo [22, 27, 28] [.tuple #[.agg #[vB r91.Done, vI r91.Steps, .slice car94 r91.Holders.length ccr95, .slice car96 r91.Reads.length ccr97, .slice car98 r91.Marks.length ccr99, .slice car100 r91.Log.length r91.Log.length], vI r92], .agg #[vB r91.Done, vI r91.Steps, .slice car94 r91.Holders.length ccr95, .slice car96 r91.Reads.length ccr97, .slice car98 r91.Marks.length ccr99, .slice car100 r91.Log.length r91.Log.length], vI r92] hr fun a hr => ?_
   refine onew (wn rfl) hr h nb (#[vB false, vI 0, .slice none 0 0, .slice none 0 0, .slice none 0 0, .slice none 0 0]) 86 fun b101 w a h hr => ?_
   refine stos (wn rfl) hr h 0 ([vB r91.Done, vI r91.Steps, .slice car94 r91.Holders.length ccr95, .slice car96 r91.Reads.length ccr97, .slice car98 r91.Marks.length ccr99, .slice car100 r91.Log.length r91.Log.length]) (#[vB r91.Done, vI r91.Steps, .slice car94 r91.Holders.length ccr95, .slice car96 r91.Reads.length ccr97, .slice car98 r91.Marks.length ccr99, .slice car100 r91.Log.length r91.Log.length]) fun w h => ?_
   refine o1 hr (vI r92) fun a hr => ?_
   refine wpList_nil ?_
   replace h : Fit z (sepL (ob86 b101 r91 car94 ccr95 car96 ccr97 car98 ccr99 car100 r91.Log.length :: ro3 car94 ccr95 r91.Holders :: rn31 car96 ccr97 r91.Reads :: ro2 car98 ccr99 r91.Marks :: ro96 car100 r91.Log.length r91.Log :: ob86 b88 r78 car81 ccr82 car83 ccr84 car85 ccr86 car87 r78.Log.length :: ro3 car81 ccr82 r78.Holders :: rn31 car83 ccr84 r78.Reads :: ro2 car85 ccr86 r78.Marks :: ro96 car87 r78.Log.length r78.Log :: ro3 car3 ccr4 r1 :: L)) _ := h
   refine then_normal ?_
   refine sr ?_
   obtain ⟨r102, e103, H⟩ := bd1 H
   refine o1 hr (.slice car3 r1.length ccr4) fun a hr => ?_
   have hc := plunderlaw8_length_ok (va0 := car3) (vc0 := ccr4) (hv0 := (RdRow.of_row encZ_i64_ok (h.pick 10) (fun h => (h.pick 10)))) (H := e103) (h := h)
   refine cl (wn rfl) hr hc ?_; clear hc h
   rintro _ w ⟨rfl, h⟩; refine ⟨_, rfl, fun a hr => ?_⟩
   refine o1 hr (vI r102) fun a hr => ?_
   refine ln ?_
   obtain ⟨o105, H, hK104⟩ := jd0 H
   refine cut_rule (β := Unit) (fun _ a w => .inl () = o105 ∧ ∃ j, Rep 82 (lk [(8, pA b88 0), (10, pA b101 0)] j) a ∧ Fit z (sepL (ob86 b88 r78 car81 ccr82 car83 ccr84 car85 ccr86 car87 r78.Log.length :: ro3 car81 ccr82 r78.Holders :: rn31 car83 ccr84 r78.Reads :: ro2 car85 ccr86 r78.Marks :: ro96 car87 r78.Log.length r78.Log :: ob86 b101 r91 car94 ccr95 car96 ccr97 car98 ccr99 car100 r91.Log.length :: ro3 car94 ccr95 r91.Holders :: rn31 car96 ccr97 r91.Reads :: ro2 car98 ccr99 r91.Marks :: ro96 car100 r91.Log.length r91.Log :: L)) w) ?_ ?_
   ·
    refine sr ?_
    refine oo [31, 32, 33] [vI r79, vB (r79 != 0), vB (r79 != 0)] hr fun a hr => ?_
    by_cases c106 : r79 = 0
    ·
     replace H := ifT c106 H
     refine opv (wgt hr (bne_eq_false_iff_eq.mpr c106)) hr (vI r92) (by kernel_rfl) fun a hr => ?_
     refine opv (wgt hr (bne_eq_false_iff_eq.mpr c106)) hr (vB (r92 != 0)) (by kernel_rfl) fun a hr => ?_
     refine opv (wn rfl) hr (vB (r92 != 0)) (rp_f (b := (r79 != 0)) rfl (by kernel_rfl) (bne_eq_false_iff_eq.mpr c106) (by kernel_rfl)) fun a hr => ?_
     refine o1 hr (vB (r92 != 0)) fun a hr => ?_
     by_cases c107 : r92 = 0
     ·
      replace H := ifT c107 H
      refine opv (wgt hr (bne_eq_false_iff_eq.mpr c107)) hr (pA b88 0) (by kernel_rfl) fun a hr => ?_
      refine ld (wgt hr (bne_eq_false_iff_eq.mpr c107)) hr (vB r78.Done) ((h.pick 5).cell 0 rfl) fun a hr => ?_
      refine opv (wgt hr (bne_eq_false_iff_eq.mpr c107)) hr (.slice va1 p1.length vc1) (by kernel_rfl) fun a hr => ?_
      refine opv (wgt hr (bne_eq_false_iff_eq.mpr c107)) hr (vI ((p1.length : Nat) : Int)) (by kernel_rfl) fun a hr => ?_
      refine opv (wgt hr (bne_eq_false_iff_eq.mpr c107)) hr (vI r102) (by kernel_rfl) fun a hr => ?_
      refine opv (wgt hr (bne_eq_false_iff_eq.mpr c107)) hr (vB (decide (((p1.length : Nat) : Int) ≥ r102))) (by kernel_rfl) fun a hr => ?_
      refine opv (wgt hr (bne_eq_false_iff_eq.mpr c107)) hr (vB (!(r78.Done == (decide (((p1.length : Nat) : Int) ≥ r102))))) (by kernel_rfl) fun a hr => ?_
      refine opv (wn rfl) hr (vB (!(r78.Done == (decide (((p1.length : Nat) : Int) ≥ r102))))) (rp_f (b := (r92 != 0)) rfl (by kernel_rfl) (bne_eq_false_iff_eq.mpr c107) (by kernel_rfl)) fun a hr => ?_
      refine o1 hr (vB (!(r78.Done == (decide (((p1.length : Nat) : Int) ≥ r102))))) fun a hr => ?_
      by_cases c108 : r78.Done = (decide (((p1.length : Nat) : Int) ≥ r102))
      ·
       replace H := ifT c108 H
       refine opv (wgt hr (x := !(r78.Done == (decide (((p1.length : Nat) : Int) ≥ r102)))) (c := false) (by rw [show (r78.Done == (decide (((p1.length : Nat) : Int) ≥ r102))) = true from (beq_iff_eq.mpr c108)]; rfl)) hr (pA b101 0) (by kernel_rfl) fun a hr => ?_
       refine ld (wgt hr (x := !(r78.Done == (decide (((p1.length : Nat) : Int) ≥ r102)))) (c := false) (by rw [show (r78.Done == (decide (((p1.length : Nat) : Int) ≥ r102))) = true from (beq_iff_eq.mpr c108)]; rfl)) hr (vB r91.Done) (h.cell 0 rfl) fun a hr => ?_
       refine opv (wgt hr (x := !(r78.Done == (decide (((p1.length : Nat) : Int) ≥ r102)))) (c := false) (by rw [show (r78.Done == (decide (((p1.length : Nat) : Int) ≥ r102))) = true from (beq_iff_eq.mpr c108)]; rfl)) hr (.slice va2 p2.length vc2) (by kernel_rfl) fun a hr => ?_
       refine opv (wgt hr (x := !(r78.Done == (decide (((p1.length : Nat) : Int) ≥ r102)))) (c := false) (by rw [show (r78.Done == (decide (((p1.length : Nat) : Int) ≥ r102))) = true from (beq_iff_eq.mpr c108)]; rfl)) hr (vI ((p2.length : Nat) : Int)) (by kernel_rfl) fun a hr => ?_
       refine opv (wgt hr (x := !(r78.Done == (decide (((p1.length : Nat) : Int) ≥ r102)))) (c := false) (by rw [show (r78.Done == (decide (((p1.length : Nat) : Int) ≥ r102))) = true from (beq_iff_eq.mpr c108)]; rfl)) hr (vI r102) (by kernel_rfl) fun a hr => ?_
       refine opv (wgt hr (x := !(r78.Done == (decide (((p1.length : Nat) : Int) ≥ r102)))) (c := false) (by rw [show (r78.Done == (decide (((p1.length : Nat) : Int) ≥ r102))) = true from (beq_iff_eq.mpr c108)]; rfl)) hr (vB (decide (((p2.length : Nat) : Int) ≥ r102))) (by kernel_rfl) fun a hr => ?_
       refine opv (wgt hr (x := !(r78.Done == (decide (((p1.length : Nat) : Int) ≥ r102)))) (c := false) (by rw [show (r78.Done == (decide (((p1.length : Nat) : Int) ≥ r102))) = true from (beq_iff_eq.mpr c108)]; rfl)) hr (vB (!(r91.Done == (decide (((p2.length : Nat) : Int) ≥ r102))))) (by kernel_rfl) fun a hr => ?_
       refine opv (wn rfl) hr (vB (!(r91.Done == (decide (((p2.length : Nat) : Int) ≥ r102))))) (rp_f (b := (!(r78.Done == (decide (((p1.length : Nat) : Int) ≥ r102))))) rfl (by kernel_rfl) (by rw [show (r78.Done == (decide (((p1.length : Nat) : Int) ≥ r102))) = true from (beq_iff_eq.mpr c108)]; rfl) (by kernel_rfl)) fun a hr => ?_
       refine ln ?_
       by_cases c109 : r91.Done = (decide (((p2.length : Nat) : Int) ≥ r102))
       ·
        replace H := ifT c109 H
        refine cond_ff hr (b := (!(r91.Done == (decide (((p2.length : Nat) : Int) ≥ r102))))) (by rw [show (r91.Done == (decide (((p2.length : Nat) : Int) ≥ r102))) = true from (beq_iff_eq.mpr c109)]; rfl) ?_
        refine wp_skip ?_
        refine then_normal ?_
        replace hr := hr.fold2 [(8, pA b88 0), (10, pA b101 0)] (by kernel_rfl); obtain ⟨j, hr⟩ := hr
        replace h : Fit z (sepL (ob86 b88 r78 car81 ccr82 car83 ccr84 car85 ccr86 car87 r78.Log.length :: ro3 car81 ccr82 r78.Holders :: rn31 car83 ccr84 r78.Reads :: ro2 car85 ccr86 r78.Marks :: ro96 car87 r78.Log.length r78.Log :: ob86 b101 r91 car94 ccr95 car96 ccr97 car98 ccr99 car100 r91.Log.length :: ro3 car94 ccr95 r91.Holders :: rn31 car96 ccr97 r91.Reads :: ro2 car98 ccr99 r91.Marks :: ro96 car100 r91.Log.length r91.Log :: L)) _ := h.sel 11 [5, 6, 7, 8, 9, 0, 1, 2, 3, 4] (by kernel_rfl) (by kernel_rfl)
        exact ⟨(), sinj H, j, hr, h⟩
       ·
        replace H := ifF c109 H
        refine cond_tt hr (b := (!(r91.Done == (decide (((p2.length : Nat) : Int) ≥ r102))))) (by rw [show (r91.Done == (decide (((p2.length : Nat) : Int) ≥ r102))) = false from (beq_eq_false_iff_ne.mpr c109)]; rfl) ?_
        refine sr ?_
        refine o1 hr (vB false) fun a hr => ?_
        refine ln ?_
        refine wp_ret ?_
        refine then_ret ?_
        refine end_ret1 (v := vB false) rfl hr (by kernel_rfl) ?_
        replace H := jx0 H hK104
        replace h : Fit z (sepL (L)) _ := h.sel 11 [] (by kernel_rfl) (by kernel_rfl)
        replace H := ej1 H; subst H
        exact ⟨rfl, h⟩
      ·
       replace H := ifF c108 H
       refine offg (wgt hr (x := !(r78.Done == (decide (((p1.length : Nat) : Int) ≥ r102)))) (c := true) (by rw [show (r78.Done == (decide (((p1.length : Nat) : Int) ≥ r102))) = false from (beq_eq_false_iff_ne.mpr c108)]; rfl)) hr fun a hr => ?_
       refine offg (wgt hr (x := !(r78.Done == (decide (((p1.length : Nat) : Int) ≥ r102)))) (c := true) (by rw [show (r78.Done == (decide (((p1.length : Nat) : Int) ≥ r102))) = false from (beq_eq_false_iff_ne.mpr c108)]; rfl)) hr fun a hr => ?_
       refine offg (wgt hr (x := !(r78.Done == (decide (((p1.length : Nat) : Int) ≥ r102)))) (c := true) (by rw [show (r78.Done == (decide (((p1.length : Nat) : Int) ≥ r102))) = false from (beq_eq_false_iff_ne.mpr c108)]; rfl)) hr fun a hr => ?_
       refine offg (wgt hr (x := !(r78.Done == (decide (((p1.length : Nat) : Int) ≥ r102)))) (c := true) (by rw [show (r78.Done == (decide (((p1.length : Nat) : Int) ≥ r102))) = false from (beq_eq_false_iff_ne.mpr c108)]; rfl)) hr fun a hr => ?_
       refine offg (wgt hr (x := !(r78.Done == (decide (((p1.length : Nat) : Int) ≥ r102)))) (c := true) (by rw [show (r78.Done == (decide (((p1.length : Nat) : Int) ≥ r102))) = false from (beq_eq_false_iff_ne.mpr c108)]; rfl)) hr fun a hr => ?_
       refine offg (wgt hr (x := !(r78.Done == (decide (((p1.length : Nat) : Int) ≥ r102)))) (c := true) (by rw [show (r78.Done == (decide (((p1.length : Nat) : Int) ≥ r102))) = false from (beq_eq_false_iff_ne.mpr c108)]; rfl)) hr fun a hr => ?_
       refine offg (wgt hr (x := !(r78.Done == (decide (((p1.length : Nat) : Int) ≥ r102)))) (c := true) (by rw [show (r78.Done == (decide (((p1.length : Nat) : Int) ≥ r102))) = false from (beq_eq_false_iff_ne.mpr c108)]; rfl)) hr fun a hr => ?_
       refine opv (wn rfl) hr (vB true) (rp_t (b := (!(r78.Done == (decide (((p1.length : Nat) : Int) ≥ r102))))) rfl (by kernel_rfl) (by rw [show (r78.Done == (decide (((p1.length : Nat) : Int) ≥ r102))) = false from (beq_eq_false_iff_ne.mpr c108)]; rfl) (by kernel_rfl)) fun a hr => ?_
       refine ln ?_
       refine cond_tt hr (b := true) rfl ?_
       refine sr ?_
       refine o1 hr (vB false) fun a hr => ?_
       refine ln ?_
       refine wp_ret ?_
       refine then_ret ?_
       refine end_ret1 (v := vB false) rfl hr (by kernel_rfl) ?_
       replace H := jx0 H hK104
       replace h : Fit z (sepL (L)) _ := h.sel 11 [] (by kernel_rfl) (by kernel_rfl)
       replace H := ej1 H; subst H
       exact ⟨rfl, h⟩
     ·
      replace H := ifF c107 H
      refine offg (wgt hr (bne_iff_ne.mpr c107)) hr fun a hr => ?_
      refine offg (wgt hr (bne_iff_ne.mpr c107)) hr fun a hr => ?_
      refine offg (wgt hr (bne_iff_ne.mpr c107)) hr fun a hr => ?_
      refine offg (wgt hr (bne_iff_ne.mpr c107)) hr fun a hr => ?_
      refine offg (wgt hr (bne_iff_ne.mpr c107)) hr fun a hr => ?_
      refine offg (wgt hr (bne_iff_ne.mpr c107)) hr fun a hr => ?_
      refine offg (wgt hr (bne_iff_ne.mpr c107)) hr fun a hr => ?_
      refine opv (wn rfl) hr (vB true) (rp_t (b := (r92 != 0)) rfl (by kernel_rfl) (bne_iff_ne.mpr c107) (by kernel_rfl)) fun a hr => ?_
      refine o1 hr (vB true) fun a hr => ?_
      refine offg (wgt hr (c := true) rfl) hr fun a hr => ?_
      refine offg (wgt hr (c := true) rfl) hr fun a hr => ?_
      refine offg (wgt hr (c := true) rfl) hr fun a hr => ?_
      refine offg (wgt hr (c := true) rfl) hr fun a hr => ?_
      refine offg (wgt hr (c := true) rfl) hr fun a hr => ?_
      refine offg (wgt hr (c := true) rfl) hr fun a hr => ?_
      refine offg (wgt hr (c := true) rfl) hr fun a hr => ?_
      refine o1 hr (vB true) fun a hr => ?_
      refine ln ?_
      refine cond_tt hr (b := true) rfl ?_
      refine sr ?_
      refine o1 hr (vB false) fun a hr => ?_
      refine ln ?_
      refine wp_ret ?_
      refine then_ret ?_
      refine end_ret1 (v := vB false) rfl hr (by kernel_rfl) ?_
      replace H := jx0 H hK104
      replace h : Fit z (sepL (L)) _ := h.sel 11 [] (by kernel_rfl) (by kernel_rfl)
      replace H := ej1 H; subst H
      exact ⟨rfl, h⟩
    ·
     replace H := ifF c106 H
     refine offg (wgt hr (bne_iff_ne.mpr c106)) hr fun a hr => ?_
     refine offg (wgt hr (bne_iff_ne.mpr c106)) hr fun a hr => ?_
     refine opv (wn rfl) hr (vB true) (rp_t (b := (r79 != 0)) rfl (by kernel_rfl) (bne_iff_ne.mpr c106) (by kernel_rfl)) fun a hr => ?_
     refine o1 hr (vB true) fun a hr => ?_
     refine offg (wgt hr (c := true) rfl) hr fun a hr => ?_
     refine offg (wgt hr (c := true) rfl) hr fun a hr => ?_
     refine offg (wgt hr (c := true) rfl) hr fun a hr => ?_
     refine offg (wgt hr (c := true) rfl) hr fun a hr => ?_
     refine offg (wgt hr (c := true) rfl) hr fun a hr => ?_
     refine offg (wgt hr (c := true) rfl) hr fun a hr => ?_
     refine offg (wgt hr (c := true) rfl) hr fun a hr => ?_
     refine oo [45, 46] [vB true, vB true] hr fun a hr => ?_
     refine offg (wgt hr (c := true) rfl) hr fun a hr => ?_
     refine offg (wgt hr (c := true) rfl) hr fun a hr => ?_
     refine offg (wgt hr (c := true) rfl) hr fun a hr => ?_
     refine offg (wgt hr (c := true) rfl) hr fun a hr => ?_
     refine offg (wgt hr (c := true) rfl) hr fun a hr => ?_
     refine offg (wgt hr (c := true) rfl) hr fun a hr => ?_
     refine offg (wgt hr (c := true) rfl) hr fun a hr => ?_
     refine o1 hr (vB true) fun a hr => ?_
     refine ln ?_
     refine cond_tt hr (b := true) rfl ?_
     refine sr ?_
     refine o1 hr (vB false) fun a hr => ?_
     refine ln ?_
     refine wp_ret ?_
     refine then_ret ?_
     refine end_ret1 (v := vB false) rfl hr (by kernel_rfl) ?_
     replace H := jx0 H hK104
     replace h : Fit z (sepL (L)) _ := h.sel 11 [] (by kernel_rfl) (by kernel_rfl)
     replace H := ej1 H; subst H
     exact ⟨rfl, h⟩
   clear h hr a; rintro _ a w ⟨rfl, j, hr, h⟩
   replace H := jk0 hK104
   obtain ⟨o111, H, hK110⟩ := jd0 H
   refine cut_rule (β := Unit) (fun _ a w => .inl () = o111 ∧ ∃ j, Rep 82 (lk [(8, pA b88 0), (10, pA b101 0)] j) a ∧ Fit z (sepL (ob86 b88 r78 car81 ccr82 car83 ccr84 car85 ccr86 car87 r78.Log.length :: ro3 car81 ccr82 r78.Holders :: rn31 car83 ccr84 r78.Reads :: ro2 car85 ccr86 r78.Marks :: ro96 car87 r78.Log.length r78.Log :: ob86 b101 r91 car94 ccr95 car96 ccr97 car98 ccr99 car100 r91.Log.length :: ro3 car94 ccr95 r91.Holders :: rn31 car96 ccr97 r91.Reads :: ro2 car98 ccr99 r91.Marks :: ro96 car100 r91.Log.length r91.Log :: L)) w) ?_ ?_
   ·
    refine sr ?_
    refine o1 hr (pA b88 0) fun a hr => ?_
    refine ld (wn rfl) hr (vB r78.Done) (h.cell 0 rfl) fun a hr => ?_
    refine oo [57, 58] [vB (!r78.Done), vB (!r78.Done)] hr fun a hr => ?_
    by_cases c112 : r78.Done = true
    ·
     replace H := ifT c112 H
     refine opv (wgt hr (x := !r78.Done) (c := false) (by rw [show r78.Done = true from (c112)]; rfl)) hr (pA b101 0) (by kernel_rfl) fun a hr => ?_
     refine ld (wgt hr (x := !r78.Done) (c := false) (by rw [show r78.Done = true from (c112)]; rfl)) hr (vB r91.Done) ((h.pick 5).cell 0 rfl) fun a hr => ?_
     refine opv (wgt hr (x := !r78.Done) (c := false) (by rw [show r78.Done = true from (c112)]; rfl)) hr (vB (!r91.Done)) (by kernel_rfl) fun a hr => ?_
     refine opv (wn rfl) hr (vB (!r91.Done)) (rp_f (b := (!r78.Done)) rfl (by kernel_rfl) (by rw [show r78.Done = true from (c112)]; rfl) (by kernel_rfl)) fun a hr => ?_
     refine ln ?_
     by_cases c113 : r91.Done = true
     ·
      replace H := ifT c113 H
      refine cond_ff hr (b := (!r91.Done)) (by rw [show r91.Done = true from (c113)]; rfl) ?_
      refine wp_skip ?_
      refine then_normal ?_
      replace hr := hr.fold2 [(8, pA b88 0), (10, pA b101 0)] (by kernel_rfl); obtain ⟨j, hr⟩ := hr
      exact ⟨(), sinj H, j, hr, h⟩
     ·
      replace H := ifF c113 H
      refine cond_tt hr (b := (!r91.Done)) (by rw [show r91.Done = false from (bF c113)]; rfl) ?_
      refine sr ?_
      refine o1 hr (vB true) fun a hr => ?_
      refine ln ?_
      refine wp_ret ?_
      refine then_ret ?_
      refine end_ret1 (v := vB true) rfl hr (by kernel_rfl) ?_
      replace H := jx0 H hK110
      replace h : Fit z (sepL (L)) _ := h.sel 10 [] (by kernel_rfl) (by kernel_rfl)
      replace H := ej1 H; subst H
      exact ⟨rfl, h⟩
    ·
     replace H := ifF c112 H
     refine offg (wgt hr (x := !r78.Done) (c := true) (by rw [show r78.Done = false from (bF c112)]; rfl)) hr fun a hr => ?_
     refine offg (wgt hr (x := !r78.Done) (c := true) (by rw [show r78.Done = false from (bF c112)]; rfl)) hr fun a hr => ?_
     refine offg (wgt hr (x := !r78.Done) (c := true) (by rw [show r78.Done = false from (bF c112)]; rfl)) hr fun a hr => ?_
     refine opv (wn rfl) hr (vB true) (rp_t (b := (!r78.Done)) rfl (by kernel_rfl) (by rw [show r78.Done = false from (bF c112)]; rfl) (by kernel_rfl)) fun a hr => ?_
     refine ln ?_
     refine cond_tt hr (b := true) rfl ?_
     refine sr ?_
     refine o1 hr (vB true) fun a hr => ?_
     refine ln ?_
     refine wp_ret ?_
     refine then_ret ?_
     refine end_ret1 (v := vB true) rfl hr (by kernel_rfl) ?_
     replace H := jx0 H hK110
     replace h : Fit z (sepL (L)) _ := h.sel 10 [] (by kernel_rfl) (by kernel_rfl)
     replace H := ej1 H; subst H
     exact ⟨rfl, h⟩
   clear h hr a; rintro _ a w ⟨rfl, j, hr, h⟩
   replace H := jk0 hK110
   refine sr ?_
   refine o1 hr (pA b88 1) fun a hr => ?_
   refine ld (wn rfl) hr (vI r78.Steps) (h.cell 1 rfl) fun a hr => ?_
   refine o1 hr (pA b101 1) fun a hr => ?_
   refine ld (wn rfl) hr (vI r91.Steps) ((h.pick 5).cell 1 rfl) fun a hr => ?_
   refine oo [67, 68] [vB (r78.Steps == r91.Steps), vB (r78.Steps == r91.Steps)] hr fun a hr => ?_
   by_cases c114 : r78.Steps = r91.Steps
   ·
    replace H := ifT c114 H
    refine opv (wgt hr (beq_iff_eq.mpr c114)) hr (pA b88 3) (by kernel_rfl) fun a hr => ?_
    refine ld (wgt hr (beq_iff_eq.mpr c114)) hr (.slice car83 r78.Reads.length ccr84) (h.cell 3 rfl) fun a hr => ?_
    refine opv (wgt hr (beq_iff_eq.mpr c114)) hr (pA b101 3) (by kernel_rfl) fun a hr => ?_
    refine ld (wgt hr (beq_iff_eq.mpr c114)) hr (.slice car96 r91.Reads.length ccr97) ((h.pick 5).cell 3 rfl) fun a hr => ?_
    obtain ⟨r115, e116, H⟩ := bd1 H
    replace h : Fit z (sepL (rn31 car83 ccr84 r78.Reads :: rn31 car96 ccr97 r91.Reads :: ob86 b88 r78 car81 ccr82 car83 ccr84 car85 ccr86 car87 r78.Log.length :: ro3 car81 ccr82 r78.Holders :: ro2 car85 ccr86 r78.Marks :: ro96 car87 r78.Log.length r78.Log :: ob86 b101 r91 car94 ccr95 car96 ccr97 car98 ccr99 car100 r91.Log.length :: ro3 car94 ccr95 r91.Holders :: ro2 car98 ccr99 r91.Marks :: ro96 car100 r91.Log.length r91.Log :: L)) _ := h.sel 10 [2, 7, 0, 1, 3, 4, 5, 6, 8, 9] (by kernel_rfl) (by kernel_rfl)
    have hc := plunderlaw8_sameReads_ok (H := e116) (h := h)
    refine cl (wgt hr (beq_iff_eq.mpr c114)) hr hc ?_; clear hc h
    rintro _ w ⟨rfl, h⟩; refine ⟨_, rfl, fun a hr => ?_⟩
    refine opv (wn rfl) hr (vB r115) (rp_t (b := (r78.Steps == r91.Steps)) rfl (by kernel_rfl) (beq_iff_eq.mpr c114) (by kernel_rfl)) fun a hr => ?_
    refine o1 hr (vB r115) fun a hr => ?_
    by_cases c117 : r115 = true
    ·
     replace H := ifT c117 H
     refine opv (wgt hr (c117)) hr (pA b88 4) (by kernel_rfl) fun a hr => ?_
     refine ld (wgt hr (c117)) hr (.slice car85 r78.Marks.length ccr86) ((h.pick 2).cell 4 rfl) fun a hr => ?_
     refine opv (wgt hr (c117)) hr (pA b101 4) (by kernel_rfl) fun a hr => ?_
     refine ld (wgt hr (c117)) hr (.slice car98 r91.Marks.length ccr99) ((h.pick 6).cell 4 rfl) fun a hr => ?_
     obtain ⟨r118, e119, H⟩ := bd1 H
     have hc := plunderlaw8_sameNumbers_ok (va0 := car85) (vc0 := ccr86) (va1 := car98) (vc1 := ccr99) (hv0 := (RdRow.of_row encZ_i64_ok (h.pick 4) (fun h => (h.pick 4)))) (hv1 := (RdRow.of_row encZ_i64_ok (h.pick 8) (fun h => (h.pick 8)))) (H := e119) (h := h)
     refine cl (wgt hr (c117)) hr hc ?_; clear hc h
     rintro _ w ⟨rfl, h⟩; refine ⟨_, rfl, fun a hr => ?_⟩
     refine opv (wn rfl) hr (vB r118) (rp_t (b := r115) rfl (by kernel_rfl) (c117) (by kernel_rfl)) fun a hr => ?_
     refine o1 hr (vB r118) fun a hr => ?_
     refine ln ?_
     refine wp_ret ?_
     refine end_ret1 (v := vB r118) rfl hr (by kernel_rfl) ?_
     replace h : Fit z (sepL (L)) _ := h.sel 10 [] (by kernel_rfl) (by kernel_rfl)
     replace H := ej1 H; subst H
     exact ⟨rfl, h⟩
    ·
     replace H := ifF c117 H
     refine offg (wgt hr (bF c117)) hr fun a hr => ?_
     refine offg (wgt hr (bF c117)) hr fun a hr => ?_
     refine offg (wgt hr (bF c117)) hr fun a hr => ?_
     refine offg (wgt hr (bF c117)) hr fun a hr => ?_
     refine offg (wgt hr (bF c117)) hr fun a hr => ?_
     refine opv (wn rfl) hr (vB false) (rp_f (b := r115) rfl (by kernel_rfl) (bF c117) (by kernel_rfl)) fun a hr => ?_
     refine o1 hr (vB false) fun a hr => ?_
     refine ln ?_
     refine wp_ret ?_
     refine end_ret1 (v := vB false) rfl hr (by kernel_rfl) ?_
     replace h : Fit z (sepL (L)) _ := h.sel 10 [] (by kernel_rfl) (by kernel_rfl)
     replace H := ej1 H; subst H
     exact ⟨rfl, h⟩
   ·
    replace H := ifF c114 H
    refine offg (wgt hr (beq_eq_false_iff_ne.mpr c114)) hr fun a hr => ?_
    refine offg (wgt hr (beq_eq_false_iff_ne.mpr c114)) hr fun a hr => ?_
    refine offg (wgt hr (beq_eq_false_iff_ne.mpr c114)) hr fun a hr => ?_
    refine offg (wgt hr (beq_eq_false_iff_ne.mpr c114)) hr fun a hr => ?_
    refine offg (wgt hr (beq_eq_false_iff_ne.mpr c114)) hr fun a hr => ?_
    refine opv (wn rfl) hr (vB false) (rp_f (b := (r78.Steps == r91.Steps)) rfl (by kernel_rfl) (beq_eq_false_iff_ne.mpr c114) (by kernel_rfl)) fun a hr => ?_
    refine o1 hr (vB false) fun a hr => ?_
    refine offg (wgt hr (c := false) rfl) hr fun a hr => ?_
    refine offg (wgt hr (c := false) rfl) hr fun a hr => ?_
    refine offg (wgt hr (c := false) rfl) hr fun a hr => ?_
    refine offg (wgt hr (c := false) rfl) hr fun a hr => ?_
    refine offg (wgt hr (c := false) rfl) hr fun a hr => ?_
    refine oo [81, 6] [vB false, vB false] hr fun a hr => ?_
    refine ln ?_
    refine wp_ret ?_
    refine end_ret1 (v := vB false) rfl hr (by kernel_rfl) ?_
    replace h : Fit z (sepL (L)) _ := h.sel 10 [] (by kernel_rfl) (by kernel_rfl)
    replace H := ej1 H; subst H
    exact ⟨rfl, h⟩
  ·
   replace H := ifF c89 H
   refine cond_ff hr (decide_eq_false c89) ?_
   refine wp_skip ?_
   refine then_normal ?_
   refine sr ?_
   refine oo [8, 2] [.slice va2 p2.length vc2, .slice va2 p2.length vc2] hr fun a hr => ?_
   refine ln ?_
   refine wp_ret ?_
   refine end_ret1 (v := .slice va2 p2.length vc2) rfl hr (by kernel_rfl) ?_
   refine ⟨_, rfl, ?_⟩; clear hr a; intro a hr
   obtain ⟨r120, r121, e122, H⟩ := bd2 H
   have hc := frames_Play_ok (va0 := car3) (vc0 := ccr4) (va1 := va2) (vc1 := vc2) (hv0 := (RdRow.of_row encZ_i64_ok (h.pick 5) (fun h => (h.pick 5)))) (hv1 := (RdRow.up 6 hv2)) (H := e122) (h := h)
   refine cl (wn rfl) hr hc ?_; clear hc h
   rintro _ w ⟨car123, ccr124, car125, ccr126, car127, ccr128, car129, rfl, h⟩; refine ⟨_, rfl, fun a hr => ?_⟩
   refine oo [22, 27, 28] [.tuple #[.agg #[vB r120.Done, vI r120.Steps, .slice car123 r120.Holders.length ccr124, .slice car125 r120.Reads.length ccr126, .slice car127 r120.Marks.length ccr128, .slice car129 r120.Log.length r120.Log.length], vI r121], .agg #[vB r120.Done, vI r120.Steps, .slice car123 r120.Holders.length ccr124, .slice car125 r120.Reads.length ccr126, .slice car127 r120.Marks.length ccr128, .slice car129 r120.Log.length r120.Log.length], vI r121] hr fun a hr => ?_
   refine onew (wn rfl) hr h nb (#[vB false, vI 0, .slice none 0 0, .slice none 0 0, .slice none 0 0, .slice none 0 0]) 86 fun b130 w a h hr => ?_
   refine stos (wn rfl) hr h 0 ([vB r120.Done, vI r120.Steps, .slice car123 r120.Holders.length ccr124, .slice car125 r120.Reads.length ccr126, .slice car127 r120.Marks.length ccr128, .slice car129 r120.Log.length r120.Log.length]) (#[vB r120.Done, vI r120.Steps, .slice car123 r120.Holders.length ccr124, .slice car125 r120.Reads.length ccr126, .slice car127 r120.Marks.length ccr128, .slice car129 r120.Log.length r120.Log.length]) fun w h => ?_
   refine o1 hr (vI r121) fun a hr => ?_
   refine wpList_nil ?_
   replace h : Fit z (sepL (ob86 b130 r120 car123 ccr124 car125 ccr126 car127 ccr128 car129 r120.Log.length :: ro3 car123 ccr124 r120.Holders :: rn31 car125 ccr126 r120.Reads :: ro2 car127 ccr128 r120.Marks :: ro96 car129 r120.Log.length r120.Log :: ob86 b88 r78 car81 ccr82 car83 ccr84 car85 ccr86 car87 r78.Log.length :: ro3 car81 ccr82 r78.Holders :: rn31 car83 ccr84 r78.Reads :: ro2 car85 ccr86 r78.Marks :: ro96 car87 r78.Log.length r78.Log :: ro3 car3 ccr4 r1 :: L)) _ := h
   refine then_normal ?_
   refine sr ?_
   obtain ⟨r131, e132, H⟩ := bd1 H
   refine o1 hr (.slice car3 r1.length ccr4) fun a hr => ?_
   have hc := plunderlaw8_length_ok (va0 := car3) (vc0 := ccr4) (hv0 := (RdRow.of_row encZ_i64_ok (h.pick 10) (fun h => (h.pick 10)))) (H := e132) (h := h)
   refine cl (wn rfl) hr hc ?_; clear hc h
   rintro _ w ⟨rfl, h⟩; refine ⟨_, rfl, fun a hr => ?_⟩
   refine o1 hr (vI r131) fun a hr => ?_
   refine ln ?_
   obtain ⟨o134, H, hK133⟩ := jd0 H
   refine cut_rule (β := Unit) (fun _ a w => .inl () = o134 ∧ ∃ j, Rep 82 (lk [(8, pA b88 0), (10, pA b130 0)] j) a ∧ Fit z (sepL (ob86 b88 r78 car81 ccr82 car83 ccr84 car85 ccr86 car87 r78.Log.length :: ro3 car81 ccr82 r78.Holders :: rn31 car83 ccr84 r78.Reads :: ro2 car85 ccr86 r78.Marks :: ro96 car87 r78.Log.length r78.Log :: ob86 b130 r120 car123 ccr124 car125 ccr126 car127 ccr128 car129 r120.Log.length :: ro3 car123 ccr124 r120.Holders :: rn31 car125 ccr126 r120.Reads :: ro2 car127 ccr128 r120.Marks :: ro96 car129 r120.Log.length r120.Log :: L)) w) ?_ ?_
   ·
    refine sr ?_
    refine oo [31, 32, 33] [vI r79, vB (r79 != 0), vB (r79 != 0)] hr fun a hr => ?_
    by_cases c135 : r79 = 0
    ·
     replace H := ifT c135 H
     refine opv (wgt hr (bne_eq_false_iff_eq.mpr c135)) hr (vI r121) (by kernel_rfl) fun a hr => ?_
     refine opv (wgt hr (bne_eq_false_iff_eq.mpr c135)) hr (vB (r121 != 0)) (by kernel_rfl) fun a hr => ?_
     refine opv (wn rfl) hr (vB (r121 != 0)) (rp_f (b := (r79 != 0)) rfl (by kernel_rfl) (bne_eq_false_iff_eq.mpr c135) (by kernel_rfl)) fun a hr => ?_
     refine o1 hr (vB (r121 != 0)) fun a hr => ?_
     by_cases c136 : r121 = 0
     ·
      replace H := ifT c136 H
      refine opv (wgt hr (bne_eq_false_iff_eq.mpr c136)) hr (pA b88 0) (by kernel_rfl) fun a hr => ?_
      refine ld (wgt hr (bne_eq_false_iff_eq.mpr c136)) hr (vB r78.Done) ((h.pick 5).cell 0 rfl) fun a hr => ?_
      refine opv (wgt hr (bne_eq_false_iff_eq.mpr c136)) hr (.slice va1 p1.length vc1) (by kernel_rfl) fun a hr => ?_
      refine opv (wgt hr (bne_eq_false_iff_eq.mpr c136)) hr (vI ((p1.length : Nat) : Int)) (by kernel_rfl) fun a hr => ?_
      refine opv (wgt hr (bne_eq_false_iff_eq.mpr c136)) hr (vI r131) (by kernel_rfl) fun a hr => ?_
      refine opv (wgt hr (bne_eq_false_iff_eq.mpr c136)) hr (vB (decide (((p1.length : Nat) : Int) ≥ r131))) (by kernel_rfl) fun a hr => ?_
      refine opv (wgt hr (bne_eq_false_iff_eq.mpr c136)) hr (vB (!(r78.Done == (decide (((p1.length : Nat) : Int) ≥ r131))))) (by kernel_rfl) fun a hr => ?_
      refine opv (wn rfl) hr (vB (!(r78.Done == (decide (((p1.length : Nat) : Int) ≥ r131))))) (rp_f (b := (r121 != 0)) rfl (by kernel_rfl) (bne_eq_false_iff_eq.mpr c136) (by kernel_rfl)) fun a hr => ?_
      refine o1 hr (vB (!(r78.Done == (decide (((p1.length : Nat) : Int) ≥ r131))))) fun a hr => ?_
      by_cases c137 : r78.Done = (decide (((p1.length : Nat) : Int) ≥ r131))
      ·
       replace H := ifT c137 H
       refine opv (wgt hr (x := !(r78.Done == (decide (((p1.length : Nat) : Int) ≥ r131)))) (c := false) (by rw [show (r78.Done == (decide (((p1.length : Nat) : Int) ≥ r131))) = true from (beq_iff_eq.mpr c137)]; rfl)) hr (pA b130 0) (by kernel_rfl) fun a hr => ?_
       refine ld (wgt hr (x := !(r78.Done == (decide (((p1.length : Nat) : Int) ≥ r131)))) (c := false) (by rw [show (r78.Done == (decide (((p1.length : Nat) : Int) ≥ r131))) = true from (beq_iff_eq.mpr c137)]; rfl)) hr (vB r120.Done) (h.cell 0 rfl) fun a hr => ?_
       refine opv (wgt hr (x := !(r78.Done == (decide (((p1.length : Nat) : Int) ≥ r131)))) (c := false) (by rw [show (r78.Done == (decide (((p1.length : Nat) : Int) ≥ r131))) = true from (beq_iff_eq.mpr c137)]; rfl)) hr (.slice va2 p2.length vc2) (by kernel_rfl) fun a hr => ?_
       refine opv (wgt hr (x := !(r78.Done == (decide (((p1.length : Nat) : Int) ≥ r131)))) (c := false) (by rw [show (r78.Done == (decide (((p1.length : Nat) : Int) ≥ r131))) = true from (beq_iff_eq.mpr c137)]; rfl)) hr (vI ((p2.length : Nat) : Int)) (by kernel_rfl) fun a hr => ?_
       refine opv (wgt hr (x := !(r78.Done == (decide (((p1.length : Nat) : Int) ≥ r131)))) (c := false) (by rw [show (r78.Done == (decide (((p1.length : Nat) : Int) ≥ r131))) = true from (beq_iff_eq.mpr c137)]; rfl)) hr (vI r131) (by kernel_rfl) fun a hr => ?_
       refine opv (wgt hr (x := !(r78.Done == (decide (((p1.length : Nat) : Int) ≥ r131)))) (c := false) (by rw [show (r78.Done == (decide (((p1.length : Nat) : Int) ≥ r131))) = true from (beq_iff_eq.mpr c137)]; rfl)) hr (vB (decide (((p2.length : Nat) : Int) ≥ r131))) (by kernel_rfl) fun a hr => ?_
       refine opv (wgt hr (x := !(r78.Done == (decide (((p1.length : Nat) : Int) ≥ r131)))) (c := false) (by rw [show (r78.Done == (decide (((p1.length : Nat) : Int) ≥ r131))) = true from (beq_iff_eq.mpr c137)]; rfl)) hr (vB (!(r120.Done == (decide (((p2.length : Nat) : Int) ≥ r131))))) (by kernel_rfl) fun a hr => ?_
       refine opv (wn rfl) hr (vB (!(r120.Done == (decide (((p2.length : Nat) : Int) ≥ r131))))) (rp_f (b := (!(r78.Done == (decide (((p1.length : Nat) : Int) ≥ r131))))) rfl (by kernel_rfl) (by rw [show (r78.Done == (decide (((p1.length : Nat) : Int) ≥ r131))) = true from (beq_iff_eq.mpr c137)]; rfl) (by kernel_rfl)) fun a hr => ?_
       refine ln ?_
       by_cases c138 : r120.Done = (decide (((p2.length : Nat) : Int) ≥ r131))
       ·
        replace H := ifT c138 H
        refine cond_ff hr (b := (!(r120.Done == (decide (((p2.length : Nat) : Int) ≥ r131))))) (by rw [show (r120.Done == (decide (((p2.length : Nat) : Int) ≥ r131))) = true from (beq_iff_eq.mpr c138)]; rfl) ?_
        refine wp_skip ?_
        refine then_normal ?_
        replace hr := hr.fold2 [(8, pA b88 0), (10, pA b130 0)] (by kernel_rfl); obtain ⟨j, hr⟩ := hr
        replace h : Fit z (sepL (ob86 b88 r78 car81 ccr82 car83 ccr84 car85 ccr86 car87 r78.Log.length :: ro3 car81 ccr82 r78.Holders :: rn31 car83 ccr84 r78.Reads :: ro2 car85 ccr86 r78.Marks :: ro96 car87 r78.Log.length r78.Log :: ob86 b130 r120 car123 ccr124 car125 ccr126 car127 ccr128 car129 r120.Log.length :: ro3 car123 ccr124 r120.Holders :: rn31 car125 ccr126 r120.Reads :: ro2 car127 ccr128 r120.Marks :: ro96 car129 r120.Log.length r120.Log :: L)) _ := h.sel 11 [5, 6, 7, 8, 9, 0, 1, 2, 3, 4] (by kernel_rfl) (by kernel_rfl)
        exact ⟨(), sinj H, j, hr, h⟩
       ·
        replace H := ifF c138 H
        refine cond_tt hr (b := (!(r120.Done == (decide (((p2.length : Nat) : Int) ≥ r131))))) (by rw [show (r120.Done == (decide (((p2.length : Nat) : Int) ≥ r131))) = false from (beq_eq_false_iff_ne.mpr c138)]; rfl) ?_
        refine sr ?_
        refine o1 hr (vB false) fun a hr => ?_
        refine ln ?_
        refine wp_ret ?_
        refine then_ret ?_
        refine end_ret1 (v := vB false) rfl hr (by kernel_rfl) ?_
        replace H := jx0 H hK133
        replace h : Fit z (sepL (L)) _ := h.sel 11 [] (by kernel_rfl) (by kernel_rfl)
        replace H := ej1 H; subst H
        exact ⟨rfl, h⟩
      ·
       replace H := ifF c137 H
       refine offg (wgt hr (x := !(r78.Done == (decide (((p1.length : Nat) : Int) ≥ r131)))) (c := true) (by rw [show (r78.Done == (decide (((p1.length : Nat) : Int) ≥ r131))) = false from (beq_eq_false_iff_ne.mpr c137)]; rfl)) hr fun a hr => ?_
       refine offg (wgt hr (x := !(r78.Done == (decide (((p1.length : Nat) : Int) ≥ r131)))) (c := true) (by rw [show (r78.Done == (decide (((p1.length : Nat) : Int) ≥ r131))) = false from (beq_eq_false_iff_ne.mpr c137)]; rfl)) hr fun a hr => ?_
       refine offg (wgt hr (x := !(r78.Done == (decide (((p1.length : Nat) : Int) ≥ r131)))) (c := true) (by rw [show (r78.Done == (decide (((p1.length : Nat) : Int) ≥ r131))) = false from (beq_eq_false_iff_ne.mpr c137)]; rfl)) hr fun a hr => ?_
       refine offg (wgt hr (x := !(r78.Done == (decide (((p1.length : Nat) : Int) ≥ r131)))) (c := true) (by rw [show (r78.Done == (decide (((p1.length : Nat) : Int) ≥ r131))) = false from (beq_eq_false_iff_ne.mpr c137)]; rfl)) hr fun a hr => ?_
       refine offg (wgt hr (x := !(r78.Done == (decide (((p1.length : Nat) : Int) ≥ r131)))) (c := true) (by rw [show (r78.Done == (decide (((p1.length : Nat) : Int) ≥ r131))) = false from (beq_eq_false_iff_ne.mpr c137)]; rfl)) hr fun a hr => ?_
       refine offg (wgt hr (x := !(r78.Done == (decide (((p1.length : Nat) : Int) ≥ r131)))) (c := true) (by rw [show (r78.Done == (decide (((p1.length : Nat) : Int) ≥ r131))) = false from (beq_eq_false_iff_ne.mpr c137)]; rfl)) hr fun a hr => ?_
       refine offg (wgt hr (x := !(r78.Done == (decide (((p1.length : Nat) : Int) ≥ r131)))) (c := true) (by rw [show (r78.Done == (decide (((p1.length : Nat) : Int) ≥ r131))) = false from (beq_eq_false_iff_ne.mpr c137)]; rfl)) hr fun a hr => ?_
       refine opv (wn rfl) hr (vB true) (rp_t (b := (!(r78.Done == (decide (((p1.length : Nat) : Int) ≥ r131))))) rfl (by kernel_rfl) (by rw [show (r78.Done == (decide (((p1.length : Nat) : Int) ≥ r131))) = false from (beq_eq_false_iff_ne.mpr c137)]; rfl) (by kernel_rfl)) fun a hr => ?_
       refine ln ?_
       refine cond_tt hr (b := true) rfl ?_
       refine sr ?_
       refine o1 hr (vB false) fun a hr => ?_
       refine ln ?_
       refine wp_ret ?_
       refine then_ret ?_
       refine end_ret1 (v := vB false) rfl hr (by kernel_rfl) ?_
       replace H := jx0 H hK133
       replace h : Fit z (sepL (L)) _ := h.sel 11 [] (by kernel_rfl) (by kernel_rfl)
       replace H := ej1 H; subst H
       exact ⟨rfl, h⟩
     ·
      replace H := ifF c136 H
      refine offg (wgt hr (bne_iff_ne.mpr c136)) hr fun a hr => ?_
      refine offg (wgt hr (bne_iff_ne.mpr c136)) hr fun a hr => ?_
      refine offg (wgt hr (bne_iff_ne.mpr c136)) hr fun a hr => ?_
      refine offg (wgt hr (bne_iff_ne.mpr c136)) hr fun a hr => ?_
      refine offg (wgt hr (bne_iff_ne.mpr c136)) hr fun a hr => ?_
      refine offg (wgt hr (bne_iff_ne.mpr c136)) hr fun a hr => ?_
      refine offg (wgt hr (bne_iff_ne.mpr c136)) hr fun a hr => ?_
      refine opv (wn rfl) hr (vB true) (rp_t (b := (r121 != 0)) rfl (by kernel_rfl) (bne_iff_ne.mpr c136) (by kernel_rfl)) fun a hr => ?_
      refine o1 hr (vB true) fun a hr => ?_
      refine offg (wgt hr (c := true) rfl) hr fun a hr => ?_
      refine offg (wgt hr (c := true) rfl) hr fun a hr => ?_
      refine offg (wgt hr (c := true) rfl) hr fun a hr => ?_
      refine offg (wgt hr (c := true) rfl) hr fun a hr => ?_
      refine offg (wgt hr (c := true) rfl) hr fun a hr => ?_
      refine offg (wgt hr (c := true) rfl) hr fun a hr => ?_
      refine offg (wgt hr (c := true) rfl) hr fun a hr => ?_
      refine o1 hr (vB true) fun a hr => ?_
      refine ln ?_
      refine cond_tt hr (b := true) rfl ?_
      refine sr ?_
      refine o1 hr (vB false) fun a hr => ?_
      refine ln ?_
      refine wp_ret ?_
      refine then_ret ?_
      refine end_ret1 (v := vB false) rfl hr (by kernel_rfl) ?_
      replace H := jx0 H hK133
      replace h : Fit z (sepL (L)) _ := h.sel 11 [] (by kernel_rfl) (by kernel_rfl)
      replace H := ej1 H; subst H
      exact ⟨rfl, h⟩
    ·
     replace H := ifF c135 H
     refine offg (wgt hr (bne_iff_ne.mpr c135)) hr fun a hr => ?_
     refine offg (wgt hr (bne_iff_ne.mpr c135)) hr fun a hr => ?_
     refine opv (wn rfl) hr (vB true) (rp_t (b := (r79 != 0)) rfl (by kernel_rfl) (bne_iff_ne.mpr c135) (by kernel_rfl)) fun a hr => ?_
     refine o1 hr (vB true) fun a hr => ?_
     refine offg (wgt hr (c := true) rfl) hr fun a hr => ?_
     refine offg (wgt hr (c := true) rfl) hr fun a hr => ?_
     refine offg (wgt hr (c := true) rfl) hr fun a hr => ?_
     refine offg (wgt hr (c := true) rfl) hr fun a hr => ?_
     refine offg (wgt hr (c := true) rfl) hr fun a hr => ?_
     refine offg (wgt hr (c := true) rfl) hr fun a hr => ?_
     refine offg (wgt hr (c := true) rfl) hr fun a hr => ?_
     refine oo [45, 46] [vB true, vB true] hr fun a hr => ?_
     refine offg (wgt hr (c := true) rfl) hr fun a hr => ?_
     refine offg (wgt hr (c := true) rfl) hr fun a hr => ?_
     refine offg (wgt hr (c := true) rfl) hr fun a hr => ?_
     refine offg (wgt hr (c := true) rfl) hr fun a hr => ?_
     refine offg (wgt hr (c := true) rfl) hr fun a hr => ?_
     refine offg (wgt hr (c := true) rfl) hr fun a hr => ?_
     refine offg (wgt hr (c := true) rfl) hr fun a hr => ?_
     refine o1 hr (vB true) fun a hr => ?_
     refine ln ?_
     refine cond_tt hr (b := true) rfl ?_
     refine sr ?_
     refine o1 hr (vB false) fun a hr => ?_
     refine ln ?_
     refine wp_ret ?_
     refine then_ret ?_
     refine end_ret1 (v := vB false) rfl hr (by kernel_rfl) ?_
     replace H := jx0 H hK133
     replace h : Fit z (sepL (L)) _ := h.sel 11 [] (by kernel_rfl) (by kernel_rfl)
     replace H := ej1 H; subst H
     exact ⟨rfl, h⟩
   clear h hr a; rintro _ a w ⟨rfl, j, hr, h⟩
   replace H := jk0 hK133
   obtain ⟨o140, H, hK139⟩ := jd0 H
   refine cut_rule (β := Unit) (fun _ a w => .inl () = o140 ∧ ∃ j, Rep 82 (lk [(8, pA b88 0), (10, pA b130 0)] j) a ∧ Fit z (sepL (ob86 b88 r78 car81 ccr82 car83 ccr84 car85 ccr86 car87 r78.Log.length :: ro3 car81 ccr82 r78.Holders :: rn31 car83 ccr84 r78.Reads :: ro2 car85 ccr86 r78.Marks :: ro96 car87 r78.Log.length r78.Log :: ob86 b130 r120 car123 ccr124 car125 ccr126 car127 ccr128 car129 r120.Log.length :: ro3 car123 ccr124 r120.Holders :: rn31 car125 ccr126 r120.Reads :: ro2 car127 ccr128 r120.Marks :: ro96 car129 r120.Log.length r120.Log :: L)) w) ?_ ?_
   ·
    refine sr ?_
    refine o1 hr (pA b88 0) fun a hr => ?_
    refine ld (wn rfl) hr (vB r78.Done) (h.cell 0 rfl) fun a hr => ?_
    refine oo [57, 58] [vB (!r78.Done), vB (!r78.Done)] hr fun a hr => ?_
    by_cases c141 : r78.Done = true
    ·
     replace H := ifT c141 H
     refine opv (wgt hr (x := !r78.Done) (c := false) (by rw [show r78.Done = true from (c141)]; rfl)) hr (pA b130 0) (by kernel_rfl) fun a hr => ?_
     refine ld (wgt hr (x := !r78.Done) (c := false) (by rw [show r78.Done = true from (c141)]; rfl)) hr (vB r120.Done) ((h.pick 5).cell 0 rfl) fun a hr => ?_
     refine opv (wgt hr (x := !r78.Done) (c := false) (by rw [show r78.Done = true from (c141)]; rfl)) hr (vB (!r120.Done)) (by kernel_rfl) fun a hr => ?_
     refine opv (wn rfl) hr (vB (!r120.Done)) (rp_f (b := (!r78.Done)) rfl (by kernel_rfl) (by rw [show r78.Done = true from (c141)]; rfl) (by kernel_rfl)) fun a hr => ?_
     refine ln ?_
     by_cases c142 : r120.Done = true
     ·
      replace H := ifT c142 H
      refine cond_ff hr (b := (!r120.Done)) (by rw [show r120.Done = true from (c142)]; rfl) ?_
      refine wp_skip ?_
      refine then_normal ?_
      replace hr := hr.fold2 [(8, pA b88 0), (10, pA b130 0)] (by kernel_rfl); obtain ⟨j, hr⟩ := hr
      exact ⟨(), sinj H, j, hr, h⟩
     ·
      replace H := ifF c142 H
      refine cond_tt hr (b := (!r120.Done)) (by rw [show r120.Done = false from (bF c142)]; rfl) ?_
      refine sr ?_
      refine o1 hr (vB true) fun a hr => ?_
      refine ln ?_
      refine wp_ret ?_
      refine then_ret ?_
      refine end_ret1 (v := vB true) rfl hr (by kernel_rfl) ?_
      replace H := jx0 H hK139
      replace h : Fit z (sepL (L)) _ := h.sel 10 [] (by kernel_rfl) (by kernel_rfl)
      replace H := ej1 H; subst H
      exact ⟨rfl, h⟩
    ·
     replace H := ifF c141 H
     refine offg (wgt hr (x := !r78.Done) (c := true) (by rw [show r78.Done = false from (bF c141)]; rfl)) hr fun a hr => ?_
     refine offg (wgt hr (x := !r78.Done) (c := true) (by rw [show r78.Done = false from (bF c141)]; rfl)) hr fun a hr => ?_
     refine offg (wgt hr (x := !r78.Done) (c := true) (by rw [show r78.Done = false from (bF c141)]; rfl)) hr fun a hr => ?_
     refine opv (wn rfl) hr (vB true) (rp_t (b := (!r78.Done)) rfl (by kernel_rfl) (by rw [show r78.Done = false from (bF c141)]; rfl) (by kernel_rfl)) fun a hr => ?_
     refine ln ?_
     refine cond_tt hr (b := true) rfl ?_
     refine sr ?_
     refine o1 hr (vB true) fun a hr => ?_
     refine ln ?_
     refine wp_ret ?_
     refine then_ret ?_
     refine end_ret1 (v := vB true) rfl hr (by kernel_rfl) ?_
     replace H := jx0 H hK139
     replace h : Fit z (sepL (L)) _ := h.sel 10 [] (by kernel_rfl) (by kernel_rfl)
     replace H := ej1 H; subst H
     exact ⟨rfl, h⟩
   clear h hr a; rintro _ a w ⟨rfl, j, hr, h⟩
   replace H := jk0 hK139
   refine sr ?_
   refine o1 hr (pA b88 1) fun a hr => ?_
   refine ld (wn rfl) hr (vI r78.Steps) (h.cell 1 rfl) fun a hr => ?_
   refine o1 hr (pA b130 1) fun a hr => ?_
   refine ld (wn rfl) hr (vI r120.Steps) ((h.pick 5).cell 1 rfl) fun a hr => ?_
   refine oo [67, 68] [vB (r78.Steps == r120.Steps), vB (r78.Steps == r120.Steps)] hr fun a hr => ?_
   by_cases c143 : r78.Steps = r120.Steps
   ·
    replace H := ifT c143 H
    refine opv (wgt hr (beq_iff_eq.mpr c143)) hr (pA b88 3) (by kernel_rfl) fun a hr => ?_
    refine ld (wgt hr (beq_iff_eq.mpr c143)) hr (.slice car83 r78.Reads.length ccr84) (h.cell 3 rfl) fun a hr => ?_
    refine opv (wgt hr (beq_iff_eq.mpr c143)) hr (pA b130 3) (by kernel_rfl) fun a hr => ?_
    refine ld (wgt hr (beq_iff_eq.mpr c143)) hr (.slice car125 r120.Reads.length ccr126) ((h.pick 5).cell 3 rfl) fun a hr => ?_
    obtain ⟨r144, e145, H⟩ := bd1 H
    replace h : Fit z (sepL (rn31 car83 ccr84 r78.Reads :: rn31 car125 ccr126 r120.Reads :: ob86 b88 r78 car81 ccr82 car83 ccr84 car85 ccr86 car87 r78.Log.length :: ro3 car81 ccr82 r78.Holders :: ro2 car85 ccr86 r78.Marks :: ro96 car87 r78.Log.length r78.Log :: ob86 b130 r120 car123 ccr124 car125 ccr126 car127 ccr128 car129 r120.Log.length :: ro3 car123 ccr124 r120.Holders :: ro2 car127 ccr128 r120.Marks :: ro96 car129 r120.Log.length r120.Log :: L)) _ := h.sel 10 [2, 7, 0, 1, 3, 4, 5, 6, 8, 9] (by kernel_rfl) (by kernel_rfl)
    have hc := plunderlaw8_sameReads_ok (H := e145) (h := h)
    refine cl (wgt hr (beq_iff_eq.mpr c143)) hr hc ?_; clear hc h
    rintro _ w ⟨rfl, h⟩; refine ⟨_, rfl, fun a hr => ?_⟩
    refine opv (wn rfl) hr (vB r144) (rp_t (b := (r78.Steps == r120.Steps)) rfl (by kernel_rfl) (beq_iff_eq.mpr c143) (by kernel_rfl)) fun a hr => ?_
    refine o1 hr (vB r144) fun a hr => ?_
    by_cases c146 : r144 = true
    ·
     replace H := ifT c146 H
     refine opv (wgt hr (c146)) hr (pA b88 4) (by kernel_rfl) fun a hr => ?_
     refine ld (wgt hr (c146)) hr (.slice car85 r78.Marks.length ccr86) ((h.pick 2).cell 4 rfl) fun a hr => ?_
     refine opv (wgt hr (c146)) hr (pA b130 4) (by kernel_rfl) fun a hr => ?_
     refine ld (wgt hr (c146)) hr (.slice car127 r120.Marks.length ccr128) ((h.pick 6).cell 4 rfl) fun a hr => ?_
     obtain ⟨r147, e148, H⟩ := bd1 H
     have hc := plunderlaw8_sameNumbers_ok (va0 := car85) (vc0 := ccr86) (va1 := car127) (vc1 := ccr128) (hv0 := (RdRow.of_row encZ_i64_ok (h.pick 4) (fun h => (h.pick 4)))) (hv1 := (RdRow.of_row encZ_i64_ok (h.pick 8) (fun h => (h.pick 8)))) (H := e148) (h := h)
     refine cl (wgt hr (c146)) hr hc ?_; clear hc h
     rintro _ w ⟨rfl, h⟩; refine ⟨_, rfl, fun a hr => ?_⟩
     refine opv (wn rfl) hr (vB r147) (rp_t (b := r144) rfl (by kernel_rfl) (c146) (by kernel_rfl)) fun a hr => ?_
     refine o1 hr (vB r147) fun a hr => ?_
     refine ln ?_
     refine wp_ret ?_
     refine end_ret1 (v := vB r147) rfl hr (by kernel_rfl) ?_
     replace h : Fit z (sepL (L)) _ := h.sel 10 [] (by kernel_rfl) (by kernel_rfl)
     replace H := ej1 H; subst H
     exact ⟨rfl, h⟩
    ·
     replace H := ifF c146 H
     refine offg (wgt hr (bF c146)) hr fun a hr => ?_
     refine offg (wgt hr (bF c146)) hr fun a hr => ?_
     refine offg (wgt hr (bF c146)) hr fun a hr => ?_
     refine offg (wgt hr (bF c146)) hr fun a hr => ?_
     refine offg (wgt hr (bF c146)) hr fun a hr => ?_
     refine opv (wn rfl) hr (vB false) (rp_f (b := r144) rfl (by kernel_rfl) (bF c146) (by kernel_rfl)) fun a hr => ?_
     refine o1 hr (vB false) fun a hr => ?_
     refine ln ?_
     refine wp_ret ?_
     refine end_ret1 (v := vB false) rfl hr (by kernel_rfl) ?_
     replace h : Fit z (sepL (L)) _ := h.sel 10 [] (by kernel_rfl) (by kernel_rfl)
     replace H := ej1 H; subst H
     exact ⟨rfl, h⟩
   ·
    replace H := ifF c143 H
    refine offg (wgt hr (beq_eq_false_iff_ne.mpr c143)) hr fun a hr => ?_
    refine offg (wgt hr (beq_eq_false_iff_ne.mpr c143)) hr fun a hr => ?_
    refine offg (wgt hr (beq_eq_false_iff_ne.mpr c143)) hr fun a hr => ?_
    refine offg (wgt hr (beq_eq_false_iff_ne.mpr c143)) hr fun a hr => ?_
    refine offg (wgt hr (beq_eq_false_iff_ne.mpr c143)) hr fun a hr => ?_
    refine opv (wn rfl) hr (vB false) (rp_f (b := (r78.Steps == r120.Steps)) rfl (by kernel_rfl) (beq_eq_false_iff_ne.mpr c143) (by kernel_rfl)) fun a hr => ?_
    refine o1 hr (vB false) fun a hr => ?_
    refine offg (wgt hr (c := false) rfl) hr fun a hr => ?_
    refine offg (wgt hr (c := false) rfl) hr fun a hr => ?_
    refine offg (wgt hr (c := false) rfl) hr fun a hr => ?_
    refine offg (wgt hr (c := false) rfl) hr fun a hr => ?_
    refine offg (wgt hr (c := false) rfl) hr fun a hr => ?_
    refine oo [81, 6] [vB false, vB false] hr fun a hr => ?_
    refine ln ?_
    refine wp_ret ?_
    refine end_ret1 (v := vB false) rfl hr (by kernel_rfl) ?_
    replace h : Fit z (sepL (L)) _ := h.sel 10 [] (by kernel_rfl) (by kernel_rfl)
    replace H := ej1 H; subst H
    exact ⟨rfl, h⟩


end Go.Proofs.Ytnghahgfcaolbaa.Mo
