/- what the functions compute, as plain Lean functions, and that they do -/
import Derived.Test.YtnghahgfcaolbaaFp1
namespace Go.Proofs.Ytnghahgfcaolbaa.Mo
open Go Go.RowKit Go.Proofs.Ytnghahgfcaolbaa.SL Go.Proofs.Ytnghahgfcaolbaa.GX
set_option linter.unusedVariables false
set_option linter.unusedSimpArgs false
set_option maxRecDepth 100000
set_option maxHeartbeats 4000000

theorem frames_Table__has_ok {z w : World} {L : List HProp} {p0 : T_frames_Table} {p1 : Int} {r0 : Bool} (H : frames_Table__has p0 p1 = some r0) (h : Fit z (sepL (L)) w)  :
    Calls Try.prog 80 #[ag_T_frames_Table p0, vI p1] w fun e w => e = .returned (vB r0) ∧ Fit z (sepL (L)) w := by
 unfold frames_Table__has at H
 refine enter Try.func80 rfl 28 rfl rfl [(0, ag_T_frames_Table p0), (1, vI p1)] ⟨rfl, rfl, trivial⟩ ?_
 intro j a hr
 refine sr ?_
 refine onew (wn rfl) hr h nb (ca_T_frames_Table p0) 39 fun b1 w a h hr => ?_
 refine o1 hr (vB false) fun a hr => ?_
 refine ln ?_
 refine sr ?_
 refine o1 hr (pA b1 0) fun a hr => ?_
 refine ld (wn rfl) hr (vI p0.Base) (h.cell 0 rfl) fun a hr => ?_
 refine oo [7, 8] [vB (decide (p0.Base ≥ 0)), vB (decide (p0.Base ≥ 0))] hr fun a hr => ?_
 by_cases c2 : p0.Base ≥ 0
 ·
  replace H := ifT c2 H
  refine onl (decide_eq_true c2) [9] [pA b1 1] hr fun a hr => ?_
  refine ld (wgt hr (decide_eq_true c2)) hr (vI p0.Frames) (h.cell 1 rfl) fun a hr => ?_
  refine onl (decide_eq_true c2) [11] [vB (decide (p0.Frames ≥ 1))] hr fun a hr => ?_
  refine opv (wn rfl) hr (vB (decide (p0.Frames ≥ 1))) (rp_t (b := (decide (p0.Base ≥ 0))) rfl (by kernel_rfl) (decide_eq_true c2) (by kernel_rfl)) fun a hr => ?_
  refine o1 hr (vB (decide (p0.Frames ≥ 1))) fun a hr => ?_
  by_cases c3 : p0.Frames ≥ 1
  ·
   replace H := ifT c3 H
   refine onl (decide_eq_true c3) [14] [pA b1 1] hr fun a hr => ?_
   refine ld (wgt hr (decide_eq_true c3)) hr (vI p0.Frames) (h.cell 1 rfl) fun a hr => ?_
   refine onl (decide_eq_true c3) [16] [vB (decide (p0.Frames ≤ 4096))] hr fun a hr => ?_
   refine opv (wn rfl) hr (vB (decide (p0.Frames ≤ 4096))) (rp_t (b := (decide (p0.Frames ≥ 1))) rfl (by kernel_rfl) (decide_eq_true c3) (by kernel_rfl)) fun a hr => ?_
   refine o1 hr (vB (decide (p0.Frames ≤ 4096))) fun a hr => ?_
   by_cases c4 : p0.Frames ≤ 4096
   ·
    replace H := ifT c4 H
    refine onl (decide_eq_true c4) [19, 20] [vI p1, vB (decide (p1 ≥ 0))] hr fun a hr => ?_
    refine opv (wn rfl) hr (vB (decide (p1 ≥ 0))) (rp_t (b := (decide (p0.Frames ≤ 4096))) rfl (by kernel_rfl) (decide_eq_true c4) (by kernel_rfl)) fun a hr => ?_
    refine o1 hr (vB (decide (p1 ≥ 0))) fun a hr => ?_
    by_cases c5 : p1 ≥ 0
    ·
     replace H := ifT c5 H
     refine onl (decide_eq_true c5) [23, 24] [vI p1, pA b1 1] hr fun a hr => ?_
     refine ld (wgt hr (decide_eq_true c5)) hr (vI p0.Frames) (h.cell 1 rfl) fun a hr => ?_
     refine onl (decide_eq_true c5) [26] [vB (decide (p1 < p0.Frames))] hr fun a hr => ?_
     refine opv (wn rfl) hr (vB (decide (p1 < p0.Frames))) (rp_t (b := (decide (p1 ≥ 0))) rfl (by kernel_rfl) (decide_eq_true c5) (by kernel_rfl)) fun a hr => ?_
     refine o1 hr (vB (decide (p1 < p0.Frames))) fun a hr => ?_
     refine ln ?_
     refine wp_ret ?_
     refine end_ret1 (v := vB (decide (p1 < p0.Frames))) rfl hr (by kernel_rfl) ?_
     replace H := ej1 H; subst H
     exact ⟨rfl, h.se 1 []⟩
    ·
     replace H := ifF c5 H
     refine offl (decide_eq_false c5) [23, 24, 25, 26] hr fun a hr => ?_
     refine opv (wn rfl) hr (vB false) (rp_f (b := (decide (p1 ≥ 0))) rfl (by kernel_rfl) (decide_eq_false c5) (by kernel_rfl)) fun a hr => ?_
     refine o1 hr (vB false) fun a hr => ?_
     refine ln ?_
     refine wp_ret ?_
     refine end_ret1 (v := vB false) rfl hr (by kernel_rfl) ?_
     replace H := ej1 H; subst H
     exact ⟨rfl, h.se 1 []⟩
   ·
    replace H := ifF c4 H
    refine offl (decide_eq_false c4) [19, 20] hr fun a hr => ?_
    refine opv (wn rfl) hr (vB false) (rp_f (b := (decide (p0.Frames ≤ 4096))) rfl (by kernel_rfl) (decide_eq_false c4) (by kernel_rfl)) fun a hr => ?_
    refine o1 hr (vB false) fun a hr => ?_
    refine offl (rfl : false = false) [23, 24, 25, 26] hr fun a hr => ?_
    refine oo [27, 4] [vB false, vB false] hr fun a hr => ?_
    refine ln ?_
    refine wp_ret ?_
    refine end_ret1 (v := vB false) rfl hr (by kernel_rfl) ?_
    replace H := ej1 H; subst H
    exact ⟨rfl, h.se 1 []⟩
  ·
   replace H := ifF c3 H
   refine offl (decide_eq_false c3) [14, 15, 16] hr fun a hr => ?_
   refine opv (wn rfl) hr (vB false) (rp_f (b := (decide (p0.Frames ≥ 1))) rfl (by kernel_rfl) (decide_eq_false c3) (by kernel_rfl)) fun a hr => ?_
   refine o1 hr (vB false) fun a hr => ?_
   refine offl (rfl : false = false) [19, 20] hr fun a hr => ?_
   refine oo [21, 22] [vB false, vB false] hr fun a hr => ?_
   refine offl (rfl : false = false) [23, 24, 25, 26] hr fun a hr => ?_
   refine oo [27, 4] [vB false, vB false] hr fun a hr => ?_
   refine ln ?_
   refine wp_ret ?_
   refine end_ret1 (v := vB false) rfl hr (by kernel_rfl) ?_
   replace H := ej1 H; subst H
   exact ⟨rfl, h.se 1 []⟩
 ·
  replace H := ifF c2 H
  refine offl (decide_eq_false c2) [9, 10, 11] hr fun a hr => ?_
  refine opv (wn rfl) hr (vB false) (rp_f (b := (decide (p0.Base ≥ 0))) rfl (by kernel_rfl) (decide_eq_false c2) (by kernel_rfl)) fun a hr => ?_
  refine o1 hr (vB false) fun a hr => ?_
  refine offl (rfl : false = false) [14, 15, 16] hr fun a hr => ?_
  refine oo [17, 18] [vB false, vB false] hr fun a hr => ?_
  refine offl (rfl : false = false) [19, 20] hr fun a hr => ?_
  refine oo [21, 22] [vB false, vB false] hr fun a hr => ?_
  refine offl (rfl : false = false) [23, 24, 25, 26] hr fun a hr => ?_
  refine oo [27, 4] [vB false, vB false] hr fun a hr => ?_
  refine ln ?_
  refine wp_ret ?_
  refine end_ret1 (v := vB false) rfl hr (by kernel_rfl) ?_
  replace H := ej1 H; subst H
  exact ⟨rfl, h.se 1 []⟩

/-- plunder/frames.begin -/
def frames_begin (p0 : Int) (p1 : T_frames_Table) (p2 : Int) (p3 : Int) (p4 : Int) : Option (T_frames_Op) :=
  ob1 (frames_Table__has p1 p2) (fun r3 => (if r3 = true then (if p3 < 0 then some (⟨0, 0, 0, 0, 0, 0, 0, 0, 0⟩ : T_frames_Op) else (if p3 ≥ 8 then some (⟨0, 0, 0, 0, 0, 0, 0, 0, 0⟩ : T_frames_Op) else some (⟨p1.Base, p1.Frames, p2, 1, 0, 0, p0, p3, p4⟩ : T_frames_Op))) else some (⟨0, 0, 0, 0, 0, 0, 0, 0, 0⟩ : T_frames_Op)))

theorem frames_begin_ok {z w : World} {L : List HProp} {p0 p2 p3 p4 : Int} {p1 : T_frames_Table} {r0 : T_frames_Op} (H : frames_begin p0 p1 p2 p3 p4 = some r0) (h : Fit z (sepL (L)) w)  :
    Calls Try.prog 55 #[vI p0, ag_T_frames_Table p1, vI p2, vI p3, vI p4] w fun e w => e = .returned (ag_T_frames_Op r0) ∧ Fit z (sepL (L)) w := by
 unfold frames_begin at H
 refine enter Try.func55 rfl 31 rfl rfl [(0, vI p0), (1, ag_T_frames_Table p1), (2, vI p2), (3, vI p3), (4, vI p4)] ⟨rfl, rfl, rfl, rfl, rfl, trivial⟩ ?_
 intro j a hr
 refine sr ?_
 refine onew (wn rfl) hr h nb (ca_T_frames_Table p1) 39 fun b1 w a h hr => ?_
 refine onew (wn rfl) hr h nb (#[vI 0, vI 0, vI 0, vI 0, vI 0, vI 0, vI 0, vI 0, vI 0]) 50 fun b2 w a h hr => ?_
 refine ln ?_
 refine wp_seq ?_
 refine sr ?_
 refine ldm (wn rfl) hr (ag_T_frames_Table p1) (cs := cl_T_frames_Table p1) ((h.pick 1).held 0 rfl) fun a hr => ?_
 obtain ⟨r3, e4, H⟩ := bd1 H
 refine o1 hr (vI p2) fun a hr => ?_
 have hc := frames_Table__has_ok (H := e4) (h := h)
 refine cl (wn rfl) hr hc ?_; clear hc h
 rintro _ w ⟨rfl, h⟩; refine ⟨_, rfl, fun a hr => ?_⟩
 refine oo [14, 15] [vB (!r3), vB (!r3)] hr fun a hr => ?_
 by_cases c5 : r3 = true
 ·
  replace H := ifT c5 H
  refine onl (show (!r3) = false from (by rw [show r3 = true from (c5)]; rfl)) [16, 17] [vI p3, vB (decide (p3 < 0))] hr fun a hr => ?_
  refine opv (wn rfl) hr (vB (decide (p3 < 0))) (rp_f (b := (!r3)) rfl (by kernel_rfl) (by rw [show r3 = true from (c5)]; rfl) (by kernel_rfl)) fun a hr => ?_
  refine o1 hr (vB (decide (p3 < 0))) fun a hr => ?_
  by_cases c6 : p3 < 0
  ·
   replace H := ifT c6 H
   refine offl (decide_eq_true c6) [20, 21] hr fun a hr => ?_
   refine opv (wn rfl) hr (vB true) (rp_t (b := (decide (p3 < 0))) rfl (by kernel_rfl) (decide_eq_true c6) (by kernel_rfl)) fun a hr => ?_
   refine ln ?_
   refine cond_tt hr (b := true) rfl ?_
   refine sr ?_
   refine o1 hr (.agg #[vI 0, vI 0, vI 0, vI 0, vI 0, vI 0, vI 0, vI 0, vI 0]) fun a hr => ?_
   refine stm (wn rfl) hr h 0 ([vI 0, vI 0, vI 0, vI 0, vI 0, vI 0, vI 0, vI 0, vI 0]) (pts b2 (.cells #[vI 0, vI 0, vI 0, vI 0, vI 0, vI 0, vI 0, vI 0, vI 0] 50)) fun w h => ?_
   refine ln ?_
   refine wp_ret ?_
   refine then_ret ?_
   refine end_retC (cs := [vI 0, vI 0, vI 0, vI 0, vI 0, vI 0, vI 0, vI 0, vI 0]) rfl hr (by kernel_rfl) (by kernel_rfl) (by kernel_rfl) (h.held 0 rfl) ?_
   replace H := ej1 H; subst H
   exact ⟨rfl, h.se 2 []⟩
  ·
   replace H := ifF c6 H
   refine onl (decide_eq_false c6) [20, 21] [vI p3, vB (decide (p3 ≥ 8))] hr fun a hr => ?_
   refine opv (wn rfl) hr (vB (decide (p3 ≥ 8))) (rp_f (b := (decide (p3 < 0))) rfl (by kernel_rfl) (decide_eq_false c6) (by kernel_rfl)) fun a hr => ?_
   refine ln ?_
   refine cD hr H (fun c7 H => ?_) fun c7 H => ?_
   ·
    refine sr ?_
    refine o1 hr (.agg #[vI 0, vI 0, vI 0, vI 0, vI 0, vI 0, vI 0, vI 0, vI 0]) fun a hr => ?_
    refine stm (wn rfl) hr h 0 ([vI 0, vI 0, vI 0, vI 0, vI 0, vI 0, vI 0, vI 0, vI 0]) (pts b2 (.cells #[vI 0, vI 0, vI 0, vI 0, vI 0, vI 0, vI 0, vI 0, vI 0] 50)) fun w h => ?_
    refine ln ?_
    refine wp_ret ?_
    refine then_ret ?_
    refine end_retC (cs := [vI 0, vI 0, vI 0, vI 0, vI 0, vI 0, vI 0, vI 0, vI 0]) rfl hr (by kernel_rfl) (by kernel_rfl) (by kernel_rfl) (h.held 0 rfl) ?_
    replace H := ej1 H; subst H
    exact ⟨rfl, h.se 2 []⟩
   ·
    refine wp_skip ?_
    refine then_normal ?_
    refine sr ?_
    refine ldm (wn rfl) hr (ag_T_frames_Table p1) (cs := cl_T_frames_Table p1) ((h.pick 1).held 0 rfl) fun a hr => ?_
    refine oo [25, 26, 27, 28, 29, 30] [vI p2, .agg #[vI p1.Base, vI p1.Frames, vI p2, vI 1, vI 0, vI 0], vI p0, vI p3, vI p4, .agg #[vI p1.Base, vI p1.Frames, vI p2, vI 1, vI 0, vI 0, vI p0, vI p3, vI p4]] hr fun a hr => ?_
    refine stm (wn rfl) hr h 0 ([vI p1.Base, vI p1.Frames, vI p2, vI 1, vI 0, vI 0, vI p0, vI p3, vI p4]) (pts b2 (.cells #[vI p1.Base, vI p1.Frames, vI p2, vI 1, vI 0, vI 0, vI p0, vI p3, vI p4] 50)) fun w h => ?_
    refine ln ?_
    refine wp_ret ?_
    refine end_retC (cs := [vI p1.Base, vI p1.Frames, vI p2, vI 1, vI 0, vI 0, vI p0, vI p3, vI p4]) rfl hr (by kernel_rfl) (by kernel_rfl) (by kernel_rfl) (h.held 0 rfl) ?_
    replace H := ej1 H; subst H
    exact ⟨rfl, h.se 2 []⟩
 ·
  replace H := ifF c5 H
  refine offl (show (!r3) = true from (by rw [show r3 = false from (bF c5)]; rfl)) [16, 17] hr fun a hr => ?_
  refine opv (wn rfl) hr (vB true) (rp_t (b := (!r3)) rfl (by kernel_rfl) (by rw [show r3 = false from (bF c5)]; rfl) (by kernel_rfl)) fun a hr => ?_
  refine o1 hr (vB true) fun a hr => ?_
  refine offl (rfl : true = true) [20, 21] hr fun a hr => ?_
  refine o1 hr (vB true) fun a hr => ?_
  refine ln ?_
  refine cond_tt hr (b := true) rfl ?_
  refine sr ?_
  refine o1 hr (.agg #[vI 0, vI 0, vI 0, vI 0, vI 0, vI 0, vI 0, vI 0, vI 0]) fun a hr => ?_
  refine stm (wn rfl) hr h 0 ([vI 0, vI 0, vI 0, vI 0, vI 0, vI 0, vI 0, vI 0, vI 0]) (pts b2 (.cells #[vI 0, vI 0, vI 0, vI 0, vI 0, vI 0, vI 0, vI 0, vI 0] 50)) fun w h => ?_
  refine ln ?_
  refine wp_ret ?_
  refine then_ret ?_
  refine end_retC (cs := [vI 0, vI 0, vI 0, vI 0, vI 0, vI 0, vI 0, vI 0, vI 0]) rfl hr (by kernel_rfl) (by kernel_rfl) (by kernel_rfl) (h.held 0 rfl) ?_
  replace H := ej1 H; subst H
  exact ⟨rfl, h.se 2 []⟩

/-- plunder/frames.Alloc -/
def frames_Alloc (p0 : T_frames_Table) : Option (T_frames_Op) :=
  ob1 (frames_begin 0 p0 0 0 0) (fun r3 => some r3)

theorem frames_Alloc_ok {z w : World} {L : List HProp} {p0 : T_frames_Table} {r0 : T_frames_Op} (H : frames_Alloc p0 = some r0) (h : Fit z (sepL (L)) w)  :
    Calls Try.prog 27 #[ag_T_frames_Table p0] w fun e w => e = .returned (ag_T_frames_Op r0) ∧ Fit z (sepL (L)) w := by
 unfold frames_Alloc at H
 refine enter Try.func27 rfl 5 rfl rfl [(0, ag_T_frames_Table p0)] ⟨rfl, trivial⟩ ?_
 intro j a hr
 refine sr ?_
 refine onew (wn rfl) hr h nb (ca_T_frames_Table p0) 39 fun b1 w a h hr => ?_
 refine onew (wn rfl) hr h nb (#[vI 0, vI 0, vI 0, vI 0, vI 0, vI 0, vI 0, vI 0, vI 0]) 50 fun b2 w a h hr => ?_
 refine ln ?_
 refine sr ?_
 refine ldm (wn rfl) hr (ag_T_frames_Table p0) (cs := cl_T_frames_Table p0) ((h.pick 1).held 0 rfl) fun a hr => ?_
 obtain ⟨r3, e4, H⟩ := bd1 H
 have hc := frames_begin_ok (H := e4) (h := h)
 refine cl (wn rfl) hr hc ?_; clear hc h
 rintro _ w ⟨rfl, h⟩; refine ⟨_, rfl, fun a hr => ?_⟩
 refine stm (wn rfl) hr h 0 (cl_T_frames_Op r3) (ob50 b2 r3) fun w h => ?_
 refine ln ?_
 refine wp_ret ?_
 refine end_retC (cs := cl_T_frames_Op r3) rfl hr (by kernel_rfl) (by kernel_rfl) (by kernel_rfl) (h.held 0 rfl) ?_
 replace H := ej1 H; subst H
 exact ⟨rfl, h.se 2 []⟩

/-- plunder/frames.Start -/
def frames_Start (p0 : T_frames_Table) (p1 : Int) : Option (T_frames_Op) :=
  ob1 (frames_begin 4 p0 p1 0 0) (fun r3 => some r3)

theorem frames_Start_ok {z w : World} {L : List HProp} {p0 : T_frames_Table} {p1 : Int} {r0 : T_frames_Op} (H : frames_Start p0 p1 = some r0) (h : Fit z (sepL (L)) w)  :
    Calls Try.prog 64 #[ag_T_frames_Table p0, vI p1] w fun e w => e = .returned (ag_T_frames_Op r0) ∧ Fit z (sepL (L)) w := by
 unfold frames_Start at H
 refine enter Try.func64 rfl 8 rfl rfl [(0, ag_T_frames_Table p0), (1, vI p1)] ⟨rfl, rfl, trivial⟩ ?_
 intro j a hr
 refine sr ?_
 refine onew (wn rfl) hr h nb (ca_T_frames_Table p0) 39 fun b1 w a h hr => ?_
 refine onew (wn rfl) hr h nb (#[vI 0, vI 0, vI 0, vI 0, vI 0, vI 0, vI 0, vI 0, vI 0]) 50 fun b2 w a h hr => ?_
 refine ln ?_
 refine sr ?_
 refine ldm (wn rfl) hr (ag_T_frames_Table p0) (cs := cl_T_frames_Table p0) ((h.pick 1).held 0 rfl) fun a hr => ?_
 obtain ⟨r3, e4, H⟩ := bd1 H
 refine o1 hr (vI p1) fun a hr => ?_
 have hc := frames_begin_ok (H := e4) (h := h)
 refine cl (wn rfl) hr hc ?_; clear hc h
 rintro _ w ⟨rfl, h⟩; refine ⟨_, rfl, fun a hr => ?_⟩
 refine stm (wn rfl) hr h 0 (cl_T_frames_Op r3) (ob50 b2 r3) fun w h => ?_
 refine ln ?_
 refine wp_ret ?_
 refine end_retC (cs := cl_T_frames_Op r3) rfl hr (by kernel_rfl) (by kernel_rfl) (by kernel_rfl) (h.held 0 rfl) ?_
 replace H := ej1 H; subst H
 exact ⟨rfl, h.se 2 []⟩

/-- plunder/frames.Fork -/
def frames_Fork (p0 : T_frames_Table) (p1 : Int) : Option (T_frames_Op) :=
  ob1 (frames_begin 1 p0 p1 0 0) (fun r3 => some r3)

theorem frames_Fork_ok {z w : World} {L : List HProp} {p0 : T_frames_Table} {p1 : Int} {r0 : T_frames_Op} (H : frames_Fork p0 p1 = some r0) (h : Fit z (sepL (L)) w)  :
    Calls Try.prog 30 #[ag_T_frames_Table p0, vI p1] w fun e w => e = .returned (ag_T_frames_Op r0) ∧ Fit z (sepL (L)) w := by
 unfold frames_Fork at H
 refine enter Try.func30 rfl 8 rfl rfl [(0, ag_T_frames_Table p0), (1, vI p1)] ⟨rfl, rfl, trivial⟩ ?_
 intro j a hr
 refine sr ?_
 refine onew (wn rfl) hr h nb (ca_T_frames_Table p0) 39 fun b1 w a h hr => ?_
 refine onew (wn rfl) hr h nb (#[vI 0, vI 0, vI 0, vI 0, vI 0, vI 0, vI 0, vI 0, vI 0]) 50 fun b2 w a h hr => ?_
 refine ln ?_
 refine sr ?_
 refine ldm (wn rfl) hr (ag_T_frames_Table p0) (cs := cl_T_frames_Table p0) ((h.pick 1).held 0 rfl) fun a hr => ?_
 obtain ⟨r3, e4, H⟩ := bd1 H
 refine o1 hr (vI p1) fun a hr => ?_
 have hc := frames_begin_ok (H := e4) (h := h)
 refine cl (wn rfl) hr hc ?_; clear hc h
 rintro _ w ⟨rfl, h⟩; refine ⟨_, rfl, fun a hr => ?_⟩
 refine stm (wn rfl) hr h 0 (cl_T_frames_Op r3) (ob50 b2 r3) fun w h => ?_
 refine ln ?_
 refine wp_ret ?_
 refine end_retC (cs := cl_T_frames_Op r3) rfl hr (by kernel_rfl) (by kernel_rfl) (by kernel_rfl) (h.held 0 rfl) ?_
 replace H := ej1 H; subst H
 exact ⟨rfl, h.se 2 []⟩

/-- plunder/frames.Sync -/
def frames_Sync (p0 : T_frames_Table) (p1 : Int) : Option (T_frames_Op) :=
  ob1 (frames_begin 3 p0 p1 0 0) (fun r3 => some r3)

theorem frames_Sync_ok {z w : World} {L : List HProp} {p0 : T_frames_Table} {p1 : Int} {r0 : T_frames_Op} (H : frames_Sync p0 p1 = some r0) (h : Fit z (sepL (L)) w)  :
    Calls Try.prog 31 #[ag_T_frames_Table p0, vI p1] w fun e w => e = .returned (ag_T_frames_Op r0) ∧ Fit z (sepL (L)) w := by
 unfold frames_Sync at H
 refine enter Try.func31 rfl 8 rfl rfl [(0, ag_T_frames_Table p0), (1, vI p1)] ⟨rfl, rfl, trivial⟩ ?_
 intro j a hr
 refine sr ?_
 refine onew (wn rfl) hr h nb (ca_T_frames_Table p0) 39 fun b1 w a h hr => ?_
 refine onew (wn rfl) hr h nb (#[vI 0, vI 0, vI 0, vI 0, vI 0, vI 0, vI 0, vI 0, vI 0]) 50 fun b2 w a h hr => ?_
 refine ln ?_
 refine sr ?_
 refine ldm (wn rfl) hr (ag_T_frames_Table p0) (cs := cl_T_frames_Table p0) ((h.pick 1).held 0 rfl) fun a hr => ?_
 obtain ⟨r3, e4, H⟩ := bd1 H
 refine o1 hr (vI p1) fun a hr => ?_
 have hc := frames_begin_ok (H := e4) (h := h)
 refine cl (wn rfl) hr hc ?_; clear hc h
 rintro _ w ⟨rfl, h⟩; refine ⟨_, rfl, fun a hr => ?_⟩
 refine stm (wn rfl) hr h 0 (cl_T_frames_Op r3) (ob50 b2 r3) fun w h => ?_
 refine ln ?_
 refine wp_ret ?_
 refine end_retC (cs := cl_T_frames_Op r3) rfl hr (by kernel_rfl) (by kernel_rfl) (by kernel_rfl) (h.held 0 rfl) ?_
 replace H := ej1 H; subst H
 exact ⟨rfl, h.se 2 []⟩

/-- plunder/frames.Finish -/
def frames_Finish (p0 : T_frames_Table) (p1 : Int) (p2 : Int) (p3 : Int) : Option (T_frames_Op) :=
  ob1 (frames_begin 2 p0 p1 p2 p3) (fun r3 => some r3)

theorem frames_Finish_ok {z w : World} {L : List HProp} {p0 : T_frames_Table} {p1 p2 p3 : Int} {r0 : T_frames_Op} (H : frames_Finish p0 p1 p2 p3 = some r0) (h : Fit z (sepL (L)) w)  :
    Calls Try.prog 32 #[ag_T_frames_Table p0, vI p1, vI p2, vI p3] w fun e w => e = .returned (ag_T_frames_Op r0) ∧ Fit z (sepL (L)) w := by
 unfold frames_Finish at H
 refine enter Try.func32 rfl 14 rfl rfl [(0, ag_T_frames_Table p0), (1, vI p1), (2, vI p2), (3, vI p3)] ⟨rfl, rfl, rfl, rfl, trivial⟩ ?_
 intro j a hr
 refine sr ?_
 refine onew (wn rfl) hr h nb (ca_T_frames_Table p0) 39 fun b1 w a h hr => ?_
 refine onew (wn rfl) hr h nb (#[vI 0, vI 0, vI 0, vI 0, vI 0, vI 0, vI 0, vI 0, vI 0]) 50 fun b2 w a h hr => ?_
 refine ln ?_
 refine sr ?_
 refine ldm (wn rfl) hr (ag_T_frames_Table p0) (cs := cl_T_frames_Table p0) ((h.pick 1).held 0 rfl) fun a hr => ?_
 obtain ⟨r3, e4, H⟩ := bd1 H
 refine oo [10, 11, 12] [vI p1, vI p2, vI p3] hr fun a hr => ?_
 have hc := frames_begin_ok (H := e4) (h := h)
 refine cl (wn rfl) hr hc ?_; clear hc h
 rintro _ w ⟨rfl, h⟩; refine ⟨_, rfl, fun a hr => ?_⟩
 refine stm (wn rfl) hr h 0 (cl_T_frames_Op r3) (ob50 b2 r3) fun w h => ?_
 refine ln ?_
 refine wp_ret ?_
 refine end_retC (cs := cl_T_frames_Op r3) rfl hr (by kernel_rfl) (by kernel_rfl) (by kernel_rfl) (h.held 0 rfl) ?_
 replace H := ej1 H; subst H
 exact ⟨rfl, h.se 2 []⟩

/-- plunder/frames.Fetch -/
def frames_Fetch (p0 : T_frames_Table) (p1 : Int) (p2 : Int) : Option (T_frames_Op) :=
  ob1 (frames_begin 5 p0 p1 p2 0) (fun r3 => some r3)

theorem frames_Fetch_ok {z w : World} {L : List HProp} {p0 : T_frames_Table} {p1 p2 : Int} {r0 : T_frames_Op} (H : frames_Fetch p0 p1 p2 = some r0) (h : Fit z (sepL (L)) w)  :
    Calls Try.prog 33 #[ag_T_frames_Table p0, vI p1, vI p2] w fun e w => e = .returned (ag_T_frames_Op r0) ∧ Fit z (sepL (L)) w := by
 unfold frames_Fetch at H
 refine enter Try.func33 rfl 11 rfl rfl [(0, ag_T_frames_Table p0), (1, vI p1), (2, vI p2)] ⟨rfl, rfl, rfl, trivial⟩ ?_
 intro j a hr
 refine sr ?_
 refine onew (wn rfl) hr h nb (ca_T_frames_Table p0) 39 fun b1 w a h hr => ?_
 refine onew (wn rfl) hr h nb (#[vI 0, vI 0, vI 0, vI 0, vI 0, vI 0, vI 0, vI 0, vI 0]) 50 fun b2 w a h hr => ?_
 refine ln ?_
 refine sr ?_
 refine ldm (wn rfl) hr (ag_T_frames_Table p0) (cs := cl_T_frames_Table p0) ((h.pick 1).held 0 rfl) fun a hr => ?_
 obtain ⟨r3, e4, H⟩ := bd1 H
 refine oo [8, 9] [vI p1, vI p2] hr fun a hr => ?_
 have hc := frames_begin_ok (H := e4) (h := h)
 refine cl (wn rfl) hr hc ?_; clear hc h
 rintro _ w ⟨rfl, h⟩; refine ⟨_, rfl, fun a hr => ?_⟩
 refine stm (wn rfl) hr h 0 (cl_T_frames_Op r3) (ob50 b2 r3) fun w h => ?_
 refine ln ?_
 refine wp_ret ?_
 refine end_retC (cs := cl_T_frames_Op r3) rfl hr (by kernel_rfl) (by kernel_rfl) (by kernel_rfl) (h.held 0 rfl) ?_
 replace H := ej1 H; subst H
 exact ⟨rfl, h.se 2 []⟩

/-- (*plunder/frames.join).begin -/
def frames_join_begin (p0 : T_frames_join) (p0_arena : T_cells_Arena) (p0_rounds : List Int) (p1 : T_frames_actor) : Option (T_frames_Op) :=
  jn0 (ob1 ((if p1.about = 0 then some (p1.about == 0) else some (p1.about == 2))) (fun g18 => (if g18 = true then ob1 (frames_Alloc (⟨p0.table_Base, p0.table_Frames⟩ : T_frames_Table)) (fun r23 => some (.inr r23)) else (if p1.about = 1 then ob1 (frames_Start (⟨p0.table_Base, p0.table_Frames⟩ : T_frames_Table) p1.frame) (fun r26 => some (.inr r26)) else (if p1.about = 3 then ob1 (frames_Fork (⟨p0.table_Base, p0.table_Frames⟩ : T_frames_Table) 0) (fun r29 => some (.inr r29)) else (if p1.about = 4 then ob1 (frames_Sync (⟨p0.table_Base, p0.table_Frames⟩ : T_frames_Table) 0) (fun r32 => some (.inr r32)) else (if p1.about = 5 then ob1 (frames_Finish (⟨p0.table_Base, p0.table_Frames⟩ : T_frames_Table) 0 p1.slot p1.value) (fun r35 => some (.inr r35)) else some (.inl ())))))))) (ob1 (frames_Fetch (⟨p0.table_Base, p0.table_Frames⟩ : T_frames_Table) 0 p1.at_) (fun r37 => some r37))

theorem frames_join_begin_ok {z w : World} {L : List HProp} {p0 : T_frames_join} {p0_arena : T_cells_Arena} {p0_rounds : List Int} {p1 : T_frames_actor} {B0 B0_arena cc2 cc4 vc0_rounds ix0_live cc6 cc8 cc10 cc12 cc14 B1 : Nat} {ca1 ca3 va0_rounds ca5 ca7 ca9 ca11 ca13 : Option Addr} {cs0_live : List Value} {r0 : T_frames_Op} (H : frames_join_begin p0 p0_arena p0_rounds p1 = some r0) (h : Fit z (sepL (ob133 B0 p0 (pA B0_arena 0) (.slice va0_rounds p0_rounds.length vc0_rounds) ca5 cc6 ca7 cc8 ca9 cc10 ca11 cc12 ca13 cc14 :: rowH 135 1 own_ptr135 (.slice ca5 p0.live.length cc6) p0.live ix0_live cs0_live :: ro3 ca7 cc8 p0.run_Holders :: rn31 ca9 cc10 p0.run_Reads :: ro2 ca11 cc12 p0.run_Marks :: ro96 ca13 cc14 p0.run_Log :: ob103 B0_arena p0_arena ca1 cc2 ca3 cc4 :: ro2 ca1 cc2 p0_arena.cell :: ro96 ca3 cc4 p0_arena.log :: ob137 B1 p1 :: L)) w) (hv0_rounds : RdRow L 1 encZ_i64 va0_rounds p0_rounds) :
    Calls Try.prog 96 #[pA B0 0, pA B1 0] w fun e w => e = .returned (ag_T_frames_Op r0) ∧ Fit z (sepL (ob133 B0 p0 (pA B0_arena 0) (.slice va0_rounds p0_rounds.length vc0_rounds) ca5 cc6 ca7 cc8 ca9 cc10 ca11 cc12 ca13 cc14 :: rowH 135 1 own_ptr135 (.slice ca5 p0.live.length cc6) p0.live ix0_live cs0_live :: ro3 ca7 cc8 p0.run_Holders :: rn31 ca9 cc10 p0.run_Reads :: ro2 ca11 cc12 p0.run_Marks :: ro96 ca13 cc14 p0.run_Log :: ob103 B0_arena p0_arena ca1 cc2 ca3 cc4 :: ro2 ca1 cc2 p0_arena.cell :: ro96 ca3 cc4 p0_arena.log :: ob137 B1 p1 :: L)) w := by
 unfold frames_join_begin at H
 refine enter Try.func96 rfl 66 rfl rfl [(0, pA B0 0), (1, pA B1 0)] ⟨rfl, rfl, trivial⟩ ?_
 intro j a hr
 refine sr ?_
 refine onew (wn rfl) hr h nb (#[vI 0, vI 0, vI 0, vI 0, vI 0, vI 0, vI 0, vI 0, vI 0]) 50 fun b15 w a h hr => ?_
 refine ln ?_
 obtain ⟨o17, H, hK16⟩ := jd0 H
 refine cut_rule (β := Unit) (fun _ a w => .inl () = o17 ∧ ∃ j, Rep 66 (lk [(0, pA B0 0), (1, pA B1 0), (4, pA b15 0)] j) a ∧ Fit z (sepL (ob133 B0 p0 (pA B0_arena 0) (.slice va0_rounds p0_rounds.length vc0_rounds) ca5 cc6 ca7 cc8 ca9 cc10 ca11 cc12 ca13 cc14 :: ob103 B0_arena p0_arena ca1 cc2 ca3 cc4 :: ro2 ca1 cc2 p0_arena.cell :: ro96 ca3 cc4 p0_arena.log :: rowH 135 1 own_ptr135 (.slice ca5 p0.live.length cc6) p0.live ix0_live cs0_live :: ro3 ca7 cc8 p0.run_Holders :: rn31 ca9 cc10 p0.run_Reads :: ro2 ca11 cc12 p0.run_Marks :: ro96 ca13 cc14 p0.run_Log :: ob137 B1 p1 :: pts b15 (.cells #[vI 0, vI 0, vI 0, vI 0, vI 0, vI 0, vI 0, vI 0, vI 0] 50) :: L)) w) ?_ ?_
 ·
  refine sr ?_
  refine oo [5, 6, 7] [pA B1 0, pA B1 0, pA B1 1] hr fun a hr => ?_
  refine ld (wn rfl) hr (vI p1.about) ((h.pick 10).cell 1 rfl) fun a hr => ?_
  refine ln ?_
  refine wp_block ?_
  obtain ⟨o20, H, hK19⟩ := kd1 H
  refine cut_rule (β := Unit) (fun _ a w => ∃ g18 : Bool, g18 = o20 ∧ ∃ j, Rep 66 (lk [(0, pA B0 0), (1, pA B1 0), (4, pA b15 0), (8, vI p1.about), (9, vB g18)] j) a ∧ Fit z (sepL (ob133 B0 p0 (pA B0_arena 0) (.slice va0_rounds p0_rounds.length vc0_rounds) ca5 cc6 ca7 cc8 ca9 cc10 ca11 cc12 ca13 cc14 :: ob103 B0_arena p0_arena ca1 cc2 ca3 cc4 :: ro2 ca1 cc2 p0_arena.cell :: ro96 ca3 cc4 p0_arena.log :: rowH 135 1 own_ptr135 (.slice ca5 p0.live.length cc6) p0.live ix0_live cs0_live :: ro3 ca7 cc8 p0.run_Holders :: rn31 ca9 cc10 p0.run_Reads :: ro2 ca11 cc12 p0.run_Marks :: ro96 ca13 cc14 p0.run_Log :: ob137 B1 p1 :: pts b15 (.cells #[vI 0, vI 0, vI 0, vI 0, vI 0, vI 0, vI 0, vI 0, vI 0] 50) :: L)) w) ?_ ?_
  ·
   refine sr ?_
   refine oo [10, 9] [vB (p1.about == 0), vB (p1.about == 0)] hr fun a hr => ?_
   refine ln ?_
   refine cD hr H (fun c21 H => ?_) fun c21 H => ?_
   ·
    refine wp_skip ?_
    refine then_normal ?_
    exact ⟨(), (p1.about == 0), sinj H, hr.fj (h.se 11 [1, 7, 8, 9, 2, 3, 4, 5, 6, 10, 0])⟩
   ·
    refine wp_region_lit ?_
    refine oo [11, 9] [vB (p1.about == 2), vB (p1.about == 2)] hr fun a hr => ?_
    refine ln ?_
    exact ⟨(), (p1.about == 2), sinj H, hr.fj (h.se 11 [1, 7, 8, 9, 2, 3, 4, 5, 6, 10, 0])⟩
  clear h hr a; rintro _ a w ⟨g18, rfl, j, hr, h⟩
  replace H := kk1 hK19
  refine cV hr H (fun c22 H => ?_) fun c22 H => ?_
  ·
   refine sr ?_
   refine oo [12, 13, 14] [pA B0 0, pA B0 0, pA B0 1] hr fun a hr => ?_
   refine ldm (wn rfl) hr (.agg #[vI p0.table_Base, vI p0.table_Frames]) (cs := [vI p0.table_Base, vI p0.table_Frames]) (h.held 1 rfl) fun a hr => ?_
   obtain ⟨r23, e24, H⟩ := bd1 H
   have hc := frames_Alloc_ok (H := e24) (h := h)
   refine cl (wn rfl) hr hc ?_; clear hc h
   rintro _ w ⟨rfl, h⟩; refine ⟨_, rfl, fun a hr => ?_⟩
   replace h := h.m10
   refine stm (wn rfl) hr h 0 (cl_T_frames_Op r23) (ob50 b15 r23) fun w h => ?_
   refine ln ?_
   refine wp_ret ?_
   refine blk_ret ?_
   refine then_ret ?_
   refine end_retC (cs := cl_T_frames_Op r23) rfl hr (by kernel_rfl) (by kernel_rfl) (by kernel_rfl) (h.held 0 rfl) ?_
   replace H := jx0 H hK16
   replace H := ej1 H; subst H
   exact ⟨rfl, h.se 11 [1, 5, 6, 7, 8, 9, 2, 3, 4, 10]⟩
  ·
   refine sr ?_
   refine oo [18, 17] [vB (p1.about == 1), vB (p1.about == 1)] hr fun a hr => ?_
   refine ln ?_
   refine cD hr H (fun c25 H => ?_) fun c25 H => ?_
   ·
    refine wp_seq ?_
    obtain ⟨r26, e27, H⟩ := bd1 H
    refine regL [(B0, 1, [vI p0.table_Base, vI p0.table_Frames]), (B1, 12, [vI p1.frame])] [1, 2, 5, 6] 10 h (fun h => ⟨(h.held 1 rfl), ⟨(h.pick 9).cell 12 rfl, trivial⟩, trivial⟩) fun w h hd => ?_
    refine evs' hd 4 [(0, 19, pA B0 0), (1, 20, pA B0 0), (2, 21, pA B0 1), (4, 23, pA B1 0), (5, 24, pA B1 0), (6, 25, pA B1 12)] hr fun a hr => ?_
    refine elm hd 0 3 3 hr (wn rfl) rfl rfl fun a hr => ?_
    refine elx hd 1 2 7 hr (wn rfl) rfl rfl fun a hr => ?_
    refine eo1 8 rfl ?_
    have hc := frames_Start_ok (H := e27) (h := h)
    refine cl (wn rfl) hr hc ?_; clear hc h
    rintro _ w ⟨rfl, h⟩; refine ⟨_, rfl, fun a hr => ?_⟩
    refine ln ?_
    refine xE ?_
    refine eo1 9 rfl ?_
    replace h := h.m10
    refine stm (wn rfl) hr h 0 (cl_T_frames_Op r26) (ob50 b15 r26) fun w h => ?_
    refine ln ?_
    refine xE ?_
    refine een ?_
    refine then_normal ?_
    refine wp_ret ?_
    refine blk_ret ?_
    refine then_ret ?_
    refine end_retC (cs := cl_T_frames_Op r26) rfl hr (by kernel_rfl) (by kernel_rfl) (by kernel_rfl) (h.held 0 rfl) ?_
    replace H := jx0 H hK16
    replace H := ej1 H; subst H
    exact ⟨rfl, h.se 11 [1, 5, 6, 7, 8, 9, 2, 3, 4, 10]⟩
   ·
    refine sr ?_
    refine oo [29, 28] [vB (p1.about == 3), vB (p1.about == 3)] hr fun a hr => ?_
    refine ln ?_
    refine cD hr H (fun c28 H => ?_) fun c28 H => ?_
    ·
     refine sr ?_
     refine oo [30, 31, 32] [pA B0 0, pA B0 0, pA B0 1] hr fun a hr => ?_
     refine ldm (wn rfl) hr (.agg #[vI p0.table_Base, vI p0.table_Frames]) (cs := [vI p0.table_Base, vI p0.table_Frames]) (h.held 1 rfl) fun a hr => ?_
     obtain ⟨r29, e30, H⟩ := bd1 H
     have hc := frames_Fork_ok (H := e30) (h := h)
     refine cl (wn rfl) hr hc ?_; clear hc h
     rintro _ w ⟨rfl, h⟩; refine ⟨_, rfl, fun a hr => ?_⟩
     replace h := h.m10
     refine stm (wn rfl) hr h 0 (cl_T_frames_Op r29) (ob50 b15 r29) fun w h => ?_
     refine ln ?_
     refine wp_ret ?_
     refine blk_ret ?_
     refine then_ret ?_
     refine end_retC (cs := cl_T_frames_Op r29) rfl hr (by kernel_rfl) (by kernel_rfl) (by kernel_rfl) (h.held 0 rfl) ?_
     replace H := jx0 H hK16
     replace H := ej1 H; subst H
     exact ⟨rfl, h.se 11 [1, 5, 6, 7, 8, 9, 2, 3, 4, 10]⟩
    ·
     refine sr ?_
     refine oo [36, 35] [vB (p1.about == 4), vB (p1.about == 4)] hr fun a hr => ?_
     refine ln ?_
     refine cD hr H (fun c31 H => ?_) fun c31 H => ?_
     ·
      refine sr ?_
      refine oo [37, 38, 39] [pA B0 0, pA B0 0, pA B0 1] hr fun a hr => ?_
      refine ldm (wn rfl) hr (.agg #[vI p0.table_Base, vI p0.table_Frames]) (cs := [vI p0.table_Base, vI p0.table_Frames]) (h.held 1 rfl) fun a hr => ?_
      obtain ⟨r32, e33, H⟩ := bd1 H
      have hc := frames_Sync_ok (H := e33) (h := h)
      refine cl (wn rfl) hr hc ?_; clear hc h
      rintro _ w ⟨rfl, h⟩; refine ⟨_, rfl, fun a hr => ?_⟩
      replace h := h.m10
      refine stm (wn rfl) hr h 0 (cl_T_frames_Op r32) (ob50 b15 r32) fun w h => ?_
      refine ln ?_
      refine wp_ret ?_
      refine blk_ret ?_
      refine then_ret ?_
      refine end_retC (cs := cl_T_frames_Op r32) rfl hr (by kernel_rfl) (by kernel_rfl) (by kernel_rfl) (h.held 0 rfl) ?_
      replace H := jx0 H hK16
      replace H := ej1 H; subst H
      exact ⟨rfl, h.se 11 [1, 5, 6, 7, 8, 9, 2, 3, 4, 10]⟩
     ·
      refine sr ?_
      refine oo [43, 42] [vB (p1.about == 5), vB (p1.about == 5)] hr fun a hr => ?_
      refine ln ?_
      refine cD hr H (fun c34 H => ?_) fun c34 H => ?_
      ·
       refine wp_seq ?_
       obtain ⟨r35, e36, H⟩ := bd1 H
       refine regL [(B0, 1, [vI p0.table_Base, vI p0.table_Frames]), (B1, 13, [vI p1.slot]), (B1, 14, [vI p1.value])] [1, 2, 5, 6, 9, 10] 14 h (fun h => ⟨(h.held 1 rfl), ⟨(h.pick 9).cell 13 rfl, trivial⟩, ⟨(h.pick 9).cell 14 rfl, trivial⟩, trivial⟩) fun w h hd => ?_
       refine evs' hd 5 [(0, 44, pA B0 0), (1, 45, pA B0 0), (2, 46, pA B0 1), (4, 48, pA B1 0), (5, 49, pA B1 0), (6, 50, pA B1 13), (8, 52, pA B1 0), (9, 53, pA B1 0), (10, 54, pA B1 14)] hr fun a hr => ?_
       refine elm hd 0 4 3 hr (wn rfl) rfl rfl fun a hr => ?_
       refine elx hd 1 3 7 hr (wn rfl) rfl rfl fun a hr => ?_
       refine elx hd 2 2 11 hr (wn rfl) rfl rfl fun a hr => ?_
       refine eo1 12 rfl ?_
       have hc := frames_Finish_ok (H := e36) (h := h)
       refine cl (wn rfl) hr hc ?_; clear hc h
       rintro _ w ⟨rfl, h⟩; refine ⟨_, rfl, fun a hr => ?_⟩
       refine ln ?_
       refine xE ?_
       refine eo1 13 rfl ?_
       replace h := h.m10
       refine stm (wn rfl) hr h 0 (cl_T_frames_Op r35) (ob50 b15 r35) fun w h => ?_
       refine ln ?_
       refine xE ?_
       refine een ?_
       refine then_normal ?_
       refine wp_ret ?_
       refine blk_ret ?_
       refine then_ret ?_
       refine end_retC (cs := cl_T_frames_Op r35) rfl hr (by kernel_rfl) (by kernel_rfl) (by kernel_rfl) (h.held 0 rfl) ?_
       replace H := jx0 H hK16
       replace H := ej1 H; subst H
       exact ⟨rfl, h.se 11 [1, 5, 6, 7, 8, 9, 2, 3, 4, 10]⟩
      ·
       refine wp_skip ?_
       refine blk_normal ?_
       refine then_normal ?_
       exact ⟨(), sinj H, hr.fj h⟩
 clear h hr a; rintro _ a w ⟨rfl, j, hr, h⟩
 replace H := jk0 hK16
 refine wp_seq ?_
 obtain ⟨r37, e38, H⟩ := bd1 H
 refine regL [(B0, 1, [vI p0.table_Base, vI p0.table_Frames]), (B1, 15, [vI p1.at_])] [1, 2, 5, 6] 10 h (fun h => ⟨(h.held 1 rfl), ⟨(h.pick 9).cell 15 rfl, trivial⟩, trivial⟩) fun w h hd => ?_
 refine evs' hd 4 [(0, 57, pA B0 0), (1, 58, pA B0 0), (2, 59, pA B0 1), (4, 61, pA B1 0), (5, 62, pA B1 0), (6, 63, pA B1 15)] hr fun a hr => ?_
 refine elm hd 0 3 3 hr (wn rfl) rfl rfl fun a hr => ?_
 refine elx hd 1 2 7 hr (wn rfl) rfl rfl fun a hr => ?_
 refine eo1 8 rfl ?_
 have hc := frames_Fetch_ok (H := e38) (h := h)
 refine cl (wn rfl) hr hc ?_; clear hc h
 rintro _ w ⟨rfl, h⟩; refine ⟨_, rfl, fun a hr => ?_⟩
 refine ln ?_
 refine xE ?_
 refine eo1 9 rfl ?_
 replace h := h.m10
 refine stm (wn rfl) hr h 0 (cl_T_frames_Op r37) (ob50 b15 r37) fun w h => ?_
 refine ln ?_
 refine xE ?_
 refine een ?_
 refine then_normal ?_
 refine wp_ret ?_
 refine end_retC (cs := cl_T_frames_Op r37) rfl hr (by kernel_rfl) (by kernel_rfl) (by kernel_rfl) (h.held 0 rfl) ?_
 replace H := ej1 H; subst H
 exact ⟨rfl, h.se 11 [1, 5, 6, 7, 8, 9, 2, 3, 4, 10]⟩

/-- (*plunder/cells.Arena).Who -/
def cells_Arena_Who (p0 : T_cells_Arena) (p1 : Int) : Option (T_cells_Arena) :=
  some ({ p0 with actor := p1 })

theorem cells_Arena_Who_ok {z w : World} {L : List HProp} {p0 q0 : T_cells_Arena} {p1 : Int} {B0 cc2 cc4 : Nat} {ca1 ca3 : Option Addr} (H : cells_Arena_Who p0 p1 = some q0) (h : Fit z (sepL (ob103 B0 p0 ca1 cc2 ca3 cc4 :: ro2 ca1 cc2 p0.cell :: ro96 ca3 cc4 p0.log :: L)) w)  :
    Calls Try.prog 39 #[pA B0 0, vI p1] w fun e w => ∃ caq0_1 ccq0_2 caq0_3 ccq0_4, e = .returned (.tuple #[]) ∧ Fit z (sepL (ob103 B0 q0 caq0_1 ccq0_2 caq0_3 ccq0_4 :: ro2 caq0_1 ccq0_2 q0.cell :: ro96 caq0_3 ccq0_4 q0.log :: L)) w := by
 unfold cells_Arena_Who at H
 refine enter Try.func39 rfl 10 rfl rfl [(0, pA B0 0), (1, vI p1)] ⟨rfl, rfl, trivial⟩ ?_
 intro j a hr
 refine sr ?_
 refine oo [4, 5] [pA B0 0, vB true] hr fun a hr => ?_
 refine ln ?_
 refine cond_tt hr (b := true) rfl ?_
 refine wp_region_lit ?_
 refine oo [6, 7, 8, 9] [pA B0 0, vI p1, pA B0 0, pA B0 4] hr fun a hr => ?_
 refine st1 (wn rfl) hr h 4 (vI p1) (pts B0 (.cells #[vI p0.ledger_size, vI p0.ledger_mark, .slice ca1 p0.cell.length cc2, .slice ca3 p0.log.length cc4, vI p1, vB p0.watched] 103)) fun w h => ?_
 refine wpList_nil ?_
 refine end_norm0 rfl hr ?_
 replace H := ej1 H; subst H
 exact ⟨ca1, cc2, ca3, cc4, rfl, h⟩

/-- (plunder/frames.Table).next -/
def frames_Table__next (p0 : T_frames_Table) : Option (Int) :=
  some p0.Base

theorem frames_Table__next_ok {z w : World} {L : List HProp} {p0 : T_frames_Table} {r0 : Int} (H : frames_Table__next p0 = some r0) (h : Fit z (sepL (L)) w)  :
    Calls Try.prog 98 #[ag_T_frames_Table p0] w fun e w => e = .returned (vI r0) ∧ Fit z (sepL (L)) w := by
 unfold frames_Table__next at H
 refine enter Try.func98 rfl 5 rfl rfl [(0, ag_T_frames_Table p0)] ⟨rfl, trivial⟩ ?_
 intro j a hr
 refine sr ?_
 refine onew (wn rfl) hr h nb (ca_T_frames_Table p0) 39 fun b1 w a h hr => ?_
 refine o1 hr (vI 0) fun a hr => ?_
 refine ln ?_
 refine sr ?_
 refine o1 hr (pA b1 0) fun a hr => ?_
 refine ld (wn rfl) hr (vI p0.Base) (h.cell 0 rfl) fun a hr => ?_
 refine o1 hr (vI p0.Base) fun a hr => ?_
 refine ln ?_
 refine wp_ret ?_
 refine end_ret1 (v := vI p0.Base) rfl hr (by kernel_rfl) ?_
 replace H := ej1 H; subst H
 exact ⟨rfl, h.se 1 []⟩

/-- (*plunder/cells.Arena).Add -/
def cells_Arena_Add (p0 : T_cells_Arena) (p1 : Int) (p2 : Int) : Option (Int × Int × T_cells_Arena) :=
  ob1 (cells_Arena_outside p0 p1) (fun r5 => (if r5 = true then some (0, 20, p0) else if inr_ p1 p0.cell.length then if inr_ p1 (p0.cell.set p1.toNat (wi ((at_ p0.cell p1.toNat) + p2))).length then ob1 (cells_Arena_note ({ p0 with cell := p0.cell.set p1.toNat (wi ((at_ p0.cell p1.toNat) + p2)) }) 3 p1 p2 (wi ((at_ p0.cell p1.toNat) + p2)) true) (fun S11 => if inr_ p1 S11.cell.length then some ((at_ S11.cell p1.toNat), 0, S11) else none) else none else none))

theorem cells_Arena_Add_ok {z w : World} {L : List HProp} {p0 q0 : T_cells_Arena} {p1 p2 r0 r1 : Int} {B0 cc2 cc4 : Nat} {ca1 ca3 : Option Addr} (H : cells_Arena_Add p0 p1 p2 = some (r0, r1, q0)) (h : Fit z (sepL (ob103 B0 p0 ca1 cc2 ca3 cc4 :: ro2 ca1 cc2 p0.cell :: ro96 ca3 cc4 p0.log :: L)) w)  :
    Calls Try.prog 122 #[pA B0 0, vI p1, vI p2] w fun e w => ∃ caq0_1 ccq0_2 caq0_3 ccq0_4, e = .returned (.tuple #[vI r0, vI r1]) ∧ Fit z (sepL (ob103 B0 q0 caq0_1 ccq0_2 caq0_3 ccq0_4 :: ro2 caq0_1 ccq0_2 q0.cell :: ro96 caq0_3 ccq0_4 q0.log :: L)) w := by
 unfold cells_Arena_Add at H
 refine enter Try.func122 rfl 39 rfl rfl [(0, pA B0 0), (1, vI p1), (2, vI p2)] ⟨rfl, rfl, rfl, trivial⟩ ?_
 intro j a hr
 refine sr ?_
 refine oo [6, 7] [vI 0, vI 0] hr fun a hr => ?_
 refine ln ?_
 refine wp_seq ?_
 refine sr ?_
 obtain ⟨r5, e6, H⟩ := bd1 H
 refine oo [8, 9] [pA B0 0, vI p1] hr fun a hr => ?_
 have hc := cells_Arena_outside_ok (H := e6) (h := h)
 refine cl (wn rfl) hr hc ?_; clear hc h
 rintro _ w ⟨rfl, h⟩; refine ⟨_, rfl, fun a hr => ?_⟩
 refine ln ?_
 refine cV hr H (fun c7 H => ?_) fun c7 H => ?_
 ·
  refine sr ?_
  refine oo [6, 7] [vI 0, vI 20] hr fun a hr => ?_
  refine ln ?_
  refine wp_ret ?_
  refine then_ret ?_
  refine end_ret2 (v := vI 0) (v' := vI 20) rfl hr (by kernel_rfl) (by kernel_rfl) ?_
  obtain ⟨rfl, rfl, rfl⟩ := ej3 H
  exact ⟨ca1, cc2, ca3, cc4, rfl, h⟩
 ·
  refine wp_skip ?_
  refine then_normal ?_
  refine sr ?_
  refine oo [11, 12, 13] [pA B0 0, pA B0 0, pA B0 2] hr fun a hr => ?_
  refine ld (wn rfl) hr (.slice ca1 p0.cell.length cc2) (h.cell 2 rfl) fun a hr => ?_
  obtain ⟨c8, H⟩ := gd H
  refine o1 hr (vI p1) fun a hr => ?_
  refine opv (wn rfl) hr (pA (blk ca1) (p1.toNat * 1)) (ri_row (k := .i64) (E := 2) rfl (by kernel_rfl) (by kernel_rfl) (by kernel_rfl) (by kernel_rfl) (h.pick 1) c8) fun a hr => ?_
  refine ld (wn rfl) hr (vI (at_ p0.cell p1.toNat)) ((h.pick 1).row_cell encZ_i64_ok (f := 0) (at_ok c8) rfl) fun a hr => ?_
  refine oo [18, 19] [vI p2, vI (wi ((at_ p0.cell p1.toNat) + p2))] hr fun a hr => ?_
  refine opv (wn rfl) hr (pA (blk ca1) (p1.toNat * 1)) (ri_row (k := .i64) (E := 2) rfl (by kernel_rfl) (by kernel_rfl) (by kernel_rfl) (by kernel_rfl) (h.pick 1) c8) fun a hr => ?_
  replace h := h.m1
  refine stor (wn rfl) hr encZ_i64_ok h p1.toNat 0 (vI (wi ((at_ p0.cell p1.toNat) + p2))) (at_ p0.cell p1.toNat) (wi ((at_ p0.cell p1.toNat) + p2)) (at_ok c8) fun w h => ?_
  refine ln ?_
  refine sr ?_
  refine oo [21, 22, 23, 24, 25, 26] [pA B0 0, vI p1, vI p2, pA B0 0, pA B0 0, pA B0 2] hr fun a hr => ?_
  refine ld (wn rfl) hr (.slice ca1 p0.cell.length cc2) ((h.pick 1).cell 2 rfl) fun a hr => ?_
  obtain ⟨c9, H⟩ := gd H
  refine o1 hr (vI p1) fun a hr => ?_
  refine opv (wn rfl) hr (pA (blk ca1) (p1.toNat * 1)) (ri_row (k := .i64) (E := 2) rfl (by kernel_rfl) (by kernel_rfl) (by kernel_rfl) (by kernel_rfl) h c9) fun a hr => ?_
  refine ld (wn rfl) hr (vI (wi ((at_ p0.cell p1.toNat) + p2))) (h.row_cell encZ_i64_ok (f := 0) (get_set ((at_okL (by simpa [inr_] using c9)))) rfl) fun a hr => ?_
  have hn9 : p0.cell.length = (p0.cell.set p1.toNat (wi ((at_ p0.cell p1.toNat) + p2))).length := h.row_n; replace h := Fit.ren1 hn9 (fun q_ => rowOf 2 1 encZ_i64 (.slice ca1 q_ cc2) (p0.cell.set p1.toNat (wi ((at_ p0.cell p1.toNat) + p2)))) (fun q_ => pts B0 (.cells #[vI p0.ledger_size, vI p0.ledger_mark, .slice ca1 q_ cc2, .slice ca3 p0.log.length cc4, vI p0.actor, vB p0.watched] 103)) h
  obtain ⟨S11, e12, H⟩ := bd1 H
  replace h := h.m2.m1.m2
  have hc := cells_Arena_note_ok (H := e12) (h := h)
  refine cl (wn rfl) hr hc ?_; clear hc h
  rintro _ w ⟨caq13, ccq14, caq15, ccq16, rfl, h⟩; refine ⟨_, rfl, fun a hr => ?_⟩
  refine ln ?_
  refine sr ?_
  refine oo [32, 33, 34] [pA B0 0, pA B0 0, pA B0 2] hr fun a hr => ?_
  refine ld (wn rfl) hr (.slice caq13 S11.cell.length ccq14) (h.cell 2 rfl) fun a hr => ?_
  obtain ⟨c17, H⟩ := gd H
  refine o1 hr (vI p1) fun a hr => ?_
  refine opv (wn rfl) hr (pA (blk caq13) (p1.toNat * 1)) (ri_row (k := .i64) (E := 2) rfl (by kernel_rfl) (by kernel_rfl) (by kernel_rfl) (by kernel_rfl) (h.pick 1) c17) fun a hr => ?_
  refine ld (wn rfl) hr (vI (at_ S11.cell p1.toNat)) ((h.pick 1).row_cell encZ_i64_ok (f := 0) (at_ok c17) rfl) fun a hr => ?_
  refine oo [6, 7] [vI (at_ S11.cell p1.toNat), vI 0] hr fun a hr => ?_
  refine ln ?_
  refine wp_ret ?_
  refine end_ret2 (v := vI (at_ S11.cell p1.toNat)) (v' := vI 0) rfl hr (by kernel_rfl) (by kernel_rfl) ?_
  obtain ⟨rfl, rfl, rfl⟩ := ej3 H
  exact ⟨caq13, ccq14, caq15, ccq16, rfl, h⟩

/-- (*plunder/frames.head).end -/
def frames_head_end (p0 : T_frames_Op) (p1 : Int) (p2 : Int) : Option (T_frames_Op) :=
  some ({ p0 with head_stands := 0, head_code := p1, head_v := p2 })

theorem frames_head_end_ok {z w : World} {L : List HProp} {p0 q0 : T_frames_Op} {p1 p2 : Int} {B0 : Nat} (H : frames_head_end p0 p1 p2 = some q0) (h : Fit z (sepL (ob50 B0 p0 :: L)) w)  :
    Calls Try.prog 56 #[pA B0 0, vI p1, vI p2] w fun e w => e = .returned (.tuple #[]) ∧ Fit z (sepL (ob50 B0 q0 :: L)) w := by
 unfold frames_head_end at H
 refine enter Try.func56 rfl 17 rfl rfl [(0, pA B0 0), (1, vI p1), (2, vI p2)] ⟨rfl, rfl, rfl, trivial⟩ ?_
 intro j a hr
 refine sr ?_
 refine oo [6, 7, 8] [pA B0 0, pA B0 0, pA B0 3] hr fun a hr => ?_
 refine st1 (wn rfl) hr h 3 (vI 0) (pts B0 (.cells #[vI p0.head_t_Base, vI p0.head_t_Frames, vI p0.head_frame, vI 0, vI p0.head_code, vI p0.head_v, vI p0.kind, vI p0.slot, vI p0.give] 50)) fun w h => ?_
 refine ln ?_
 refine sr ?_
 refine oo [9, 10, 11, 12] [pA B0 0, vI p1, pA B0 0, pA B0 4] hr fun a hr => ?_
 refine st1 (wn rfl) hr h 4 (vI p1) (pts B0 (.cells #[vI p0.head_t_Base, vI p0.head_t_Frames, vI p0.head_frame, vI 0, vI p1, vI p0.head_v, vI p0.kind, vI p0.slot, vI p0.give] 50)) fun w h => ?_
 refine ln ?_
 refine wp_region_lit ?_
 refine oo [13, 14, 15, 16] [pA B0 0, vI p2, pA B0 0, pA B0 5] hr fun a hr => ?_
 refine st1 (wn rfl) hr h 5 (vI p2) (pts B0 (.cells #[vI p0.head_t_Base, vI p0.head_t_Frames, vI p0.head_frame, vI 0, vI p1, vI p2, vI p0.kind, vI p0.slot, vI p0.give] 50)) fun w h => ?_
 refine wpList_nil ?_
 refine end_norm0 rfl hr ?_
 replace H := ej1 H; subst H
 exact ⟨rfl, h⟩

/-- (*plunder/frames.Op).alloc -/
def frames_Op_alloc_iface (p0 : T_frames_Op) (p1 : T_cells_Arena) : Option (Int × T_frames_Op × T_cells_Arena) :=
  ob1 (frames_Table__next (⟨p0.head_t_Base, p0.head_t_Frames⟩ : T_frames_Table)) (fun r5 => ob3 (cells_Arena_Add p1 r5 1) (fun r7 r8 S9 => (if r8 = 0 then ob1 ((if r7 ≥ 1 then some (decide (r7 ≤ p0.head_t_Frames)) else some false)) (fun g16 => (if g16 = true then ob1 (frames_head_end p0 4 (wi (r7 - 1))) (fun S21 => some (0, S21, S9)) else ob1 (frames_head_end p0 3 0) (fun S23 => some (0, S23, S9)))) else some (r8, p0, S9))))

theorem frames_Op_alloc_iface_ok {z w : World} {L : List HProp} {p0 q0 : T_frames_Op} {p1 q1 : T_cells_Arena} {B0 B1 cc2 cc4 : Nat} {ca1 ca3 : Option Addr} {r0 : Int} (H : frames_Op_alloc_iface p0 p1 = some (r0, q0, q1)) (h : Fit z (sepL (ob50 B0 p0 :: ob103 B1 p1 ca1 cc2 ca3 cc4 :: ro2 ca1 cc2 p1.cell :: ro96 ca3 cc4 p1.log :: L)) w)  :
    Calls Try.prog 81 #[pA B0 0, .iface 26 (pA B1 0)] w fun e w => ∃ caq1_1 ccq1_2 caq1_3 ccq1_4, e = .returned (vI r0) ∧ Fit z (sepL (ob50 B0 q0 :: ob103 B1 q1 caq1_1 ccq1_2 caq1_3 ccq1_4 :: ro2 caq1_1 ccq1_2 q1.cell :: ro96 caq1_3 ccq1_4 q1.log :: L)) w := by
 unfold frames_Op_alloc_iface at H
 refine enter Try.func81 rfl 46 rfl rfl [(0, pA B0 0), (1, .iface 26 (pA B1 0))] ⟨rfl, rfl, trivial⟩ ?_
 intro j a hr
 refine sr ?_
 refine o1 hr (vI 0) fun a hr => ?_
 refine ln ?_
 refine wp_seq ?_
 obtain ⟨r5, e6, H⟩ := bd1 H
 obtain ⟨r7, r8, S9, e10, H⟩ := bd3 H
 refine regL [(B0, 0, [vI p0.head_t_Base, vI p0.head_t_Frames])] [2, 3, 4, 6, 7, 8] 16 h (fun h => ⟨(h.held 0 rfl), trivial⟩) fun w h hd => ?_
 refine evs' hd 8 [(0, 8, .iface 26 (pA B1 0)), (1, 9, pA B0 0), (2, 10, pA B0 0), (3, 11, pA B0 0), (4, 12, pA B0 0), (7, 15, .func (.method "Add") #[.iface 26 (pA B1 0)] #[]), (8, 16, .func (.method "Add") #[.iface 26 (pA B1 0)] #[]), (9, 17, .iface 26 (pA B1 0))] hr fun a hr => ?_
 refine elm hd 0 7 5 hr (wn rfl) rfl rfl fun a hr => ?_
 refine eo1 6 rfl ?_
 have hc := frames_Table__next_ok (H := e6) (h := h)
 refine cl (wn rfl) hr hc ?_; clear hc h
 rintro _ w ⟨rfl, h⟩; refine ⟨_, rfl, fun a hr => ?_⟩
 refine ln ?_
 refine eE ⟨(h.held 0 rfl), trivial⟩ fun hd => ?_
 refine eo1 10 rfl ?_
 replace h := h.m3.m3.m3
 have hc := cells_Arena_Add_ok (H := e10) (h := h)
 refine cl (wn rfl) hr hc ?_; clear hc h
 rintro _ w ⟨caq11, ccq12, caq13, ccq14, rfl, h⟩; refine ⟨_, rfl, fun a hr => ?_⟩
 refine ln ?_
 refine xE ?_
 refine evs 4 11 rfl (wn rfl) hr (.tuple #[vI r7, vI r8]) fun a hr => ?_
 refine evs 3 12 rfl (wn rfl) hr (vI r7) fun a hr => ?_
 refine evs 2 13 rfl (wn rfl) hr (vI r8) fun a hr => ?_
 refine evs 1 14 rfl (wn rfl) hr (vI r7) fun a hr => ?_
 refine evs 0 15 rfl (wn rfl) hr (vI r8) fun a hr => ?_
 refine een ?_
 refine then_normal ?_
 refine wp_seq ?_
 refine sr ?_
 refine oo [21, 22] [vI r8, vB (r8 != 0)] hr fun a hr => ?_
 refine ln ?_
 refine cN hr H (fun c15 H => ?_) fun c15 H => ?_
 ·
  refine wp_skip ?_
  refine then_normal ?_
  refine wp_seq ?_
  obtain ⟨o18, H, hK17⟩ := kd1 H
  refine cut_rule (β := Unit) (fun _ a w => ∃ g16 : Bool, g16 = o18 ∧ ∃ j, Rep 46 (lk [(0, pA B0 0), (5, vI r7), (35, vB g16)] j) a ∧ Fit z (sepL (ob50 B0 p0 :: ob103 B1 S9 caq11 ccq12 caq13 ccq14 :: ro2 caq11 ccq12 S9.cell :: ro96 caq13 ccq14 S9.log :: L)) w) ?_ ?_
  ·
   refine wp_region_lit ?_
   refine oo [24, 25, 26] [vI r7, vB (decide (r7 ≥ 1)), vB (decide (r7 ≥ 1))] hr fun a hr => ?_
   by_cases c19 : r7 ≥ 1
   ·
    replace H := ifT c19 H
    refine onl (decide_eq_true c19) [27, 28, 29, 30, 31, 32] [vI r7, pA B0 0, pA B0 0, pA B0 0, pA B0 0, pA B0 1] hr fun a hr => ?_
    refine ld (wgt hr (decide_eq_true c19)) hr (vI p0.head_t_Frames) ((h.pick 3).cell 1 rfl) fun a hr => ?_
    refine onl (decide_eq_true c19) [34] [vB (decide (r7 ≤ p0.head_t_Frames))] hr fun a hr => ?_
    refine opv (wn rfl) hr (vB (decide (r7 ≤ p0.head_t_Frames))) (rp_t (b := (decide (r7 ≥ 1))) rfl (by kernel_rfl) (decide_eq_true c19) (by kernel_rfl)) fun a hr => ?_
    refine ln ?_
    exact ⟨(), (decide (r7 ≤ p0.head_t_Frames)), sinj H, hr.fj (h.se 4 [3, 0, 1, 2])⟩
   ·
    replace H := ifF c19 H
    refine offl (decide_eq_false c19) [27, 28, 29, 30, 31, 32, 33, 34] hr fun a hr => ?_
    refine opv (wn rfl) hr (vB false) (rp_f (b := (decide (r7 ≥ 1))) rfl (by kernel_rfl) (decide_eq_false c19) (by kernel_rfl)) fun a hr => ?_
    refine ln ?_
    exact ⟨(), false, sinj H, hr.fj (h.se 4 [3, 0, 1, 2])⟩
  clear h hr a; rintro _ a w ⟨g16, rfl, j, hr, h⟩
  replace H := kk1 hK17
  refine cV hr H (fun c20 H => ?_) fun c20 H => ?_
  ·
   refine wp_region_lit ?_
   obtain ⟨S21, e22, H⟩ := bd1 H
   refine oo [36, 37, 38, 39, 40] [pA B0 0, pA B0 0, pA B0 0, vI r7, vI (wi (r7 - 1))] hr fun a hr => ?_
   have hc := frames_head_end_ok (H := e22) (h := h)
   refine cl (wn rfl) hr hc ?_; clear hc h
   rintro _ w ⟨rfl, h⟩; refine ⟨_, rfl, fun a hr => ?_⟩
   refine ln ?_
   refine sr ?_
   refine o1 hr (vI 0) fun a hr => ?_
   refine ln ?_
   refine wp_ret ?_
   refine end_ret1 (v := vI 0) rfl hr (by kernel_rfl) ?_
   obtain ⟨rfl, rfl, rfl⟩ := ej3 H
   exact ⟨caq11, ccq12, caq13, ccq14, rfl, h⟩
  ·
   refine wp_region_lit ?_
   obtain ⟨S23, e24, H⟩ := bd1 H
   refine oo [42, 43, 44] [pA B0 0, pA B0 0, pA B0 0] hr fun a hr => ?_
   have hc := frames_head_end_ok (H := e24) (h := h)
   refine cl (wn rfl) hr hc ?_; clear hc h
   rintro _ w ⟨rfl, h⟩; refine ⟨_, rfl, fun a hr => ?_⟩
   refine ln ?_
   refine sr ?_
   refine o1 hr (vI 0) fun a hr => ?_
   refine ln ?_
   refine wp_ret ?_
   refine end_ret1 (v := vI 0) rfl hr (by kernel_rfl) ?_
   obtain ⟨rfl, rfl, rfl⟩ := ej3 H
   exact ⟨caq11, ccq12, caq13, ccq14, rfl, h⟩
 ·
  refine sr ?_
  refine oo [23, 4] [vI r8, vI r8] hr fun a hr => ?_
  refine ln ?_
  refine wp_ret ?_
  refine then_ret ?_
  refine end_ret1 (v := vI r8) rfl hr (by kernel_rfl) ?_
  obtain ⟨rfl, rfl, rfl⟩ := ej3 H
  exact ⟨caq11, ccq12, caq13, ccq14, rfl, h.se 4 [3, 0, 1, 2]⟩

/-- (*plunder/frames.Op).fork -/
def frames_Op_fork_iface (p0 : T_frames_Op) (p1 : T_cells_Arena) : Option (Int × T_frames_Op × T_cells_Arena) :=
  ob1 (frames_Table__join (⟨p0.head_t_Base, p0.head_t_Frames⟩ : T_frames_Table) p0.head_frame) (fun r5 => ob3 (cells_Arena_Add p1 r5 1) (fun r7 r8 S9 => (if r8 = 0 then ob1 (frames_head_end p0 9 r7) (fun S16 => some (r8, S16, S9)) else some (r8, p0, S9))))

theorem frames_Op_fork_iface_ok {z w : World} {L : List HProp} {p0 q0 : T_frames_Op} {p1 q1 : T_cells_Arena} {B0 B1 cc2 cc4 : Nat} {ca1 ca3 : Option Addr} {r0 : Int} (H : frames_Op_fork_iface p0 p1 = some (r0, q0, q1)) (h : Fit z (sepL (ob50 B0 p0 :: ob103 B1 p1 ca1 cc2 ca3 cc4 :: ro2 ca1 cc2 p1.cell :: ro96 ca3 cc4 p1.log :: L)) w)  :
    Calls Try.prog 82 #[pA B0 0, .iface 26 (pA B1 0)] w fun e w => ∃ caq1_1 ccq1_2 caq1_3 ccq1_4, e = .returned (vI r0) ∧ Fit z (sepL (ob50 B0 q0 :: ob103 B1 q1 caq1_1 ccq1_2 caq1_3 ccq1_4 :: ro2 caq1_1 ccq1_2 q1.cell :: ro96 caq1_3 ccq1_4 q1.log :: L)) w := by
 unfold frames_Op_fork_iface at H
 refine enter Try.func82 rfl 34 rfl rfl [(0, pA B0 0), (1, .iface 26 (pA B1 0))] ⟨rfl, rfl, trivial⟩ ?_
 intro j a hr
 refine sr ?_
 refine o1 hr (vI 0) fun a hr => ?_
 refine ln ?_
 refine wp_seq ?_
 obtain ⟨r5, e6, H⟩ := bd1 H
 obtain ⟨r7, r8, S9, e10, H⟩ := bd3 H
 refine regL [(B0, 0, [vI p0.head_t_Base, vI p0.head_t_Frames]), (B0, 2, [vI p0.head_frame])] [2, 3, 4, 7, 8, 9, 11, 12, 13] 21 h (fun h => ⟨(h.held 0 rfl), ⟨h.cell 2 rfl, trivial⟩, trivial⟩) fun w h hd => ?_
 refine evs' hd 9 [(0, 8, .iface 26 (pA B1 0)), (1, 9, pA B0 0), (2, 10, pA B0 0), (3, 11, pA B0 0), (4, 12, pA B0 0), (6, 14, pA B0 0), (7, 15, pA B0 0), (8, 16, pA B0 0), (9, 17, pA B0 2), (12, 20, .func (.method "Add") #[.iface 26 (pA B1 0)] #[]), (13, 21, .func (.method "Add") #[.iface 26 (pA B1 0)] #[]), (14, 22, .iface 26 (pA B1 0))] hr fun a hr => ?_
 refine elm hd 0 8 5 hr (wn rfl) rfl rfl fun a hr => ?_
 refine elx hd 1 7 10 hr (wn rfl) rfl rfl fun a hr => ?_
 refine eo1 11 rfl ?_
 have hc := frames_Table__join_ok (H := e6) (h := h)
 refine cl (wn rfl) hr hc ?_; clear hc h
 rintro _ w ⟨rfl, h⟩; refine ⟨_, rfl, fun a hr => ?_⟩
 refine ln ?_
 refine eE ⟨(h.held 0 rfl), ⟨h.cell 2 rfl, trivial⟩, trivial⟩ fun hd => ?_
 refine eo1 15 rfl ?_
 replace h := h.m3.m3.m3
 have hc := cells_Arena_Add_ok (H := e10) (h := h)
 refine cl (wn rfl) hr hc ?_; clear hc h
 rintro _ w ⟨caq11, ccq12, caq13, ccq14, rfl, h⟩; refine ⟨_, rfl, fun a hr => ?_⟩
 refine ln ?_
 refine xE ?_
 refine evs 4 16 rfl (wn rfl) hr (.tuple #[vI r7, vI r8]) fun a hr => ?_
 refine evs 3 17 rfl (wn rfl) hr (vI r7) fun a hr => ?_
 refine evs 2 18 rfl (wn rfl) hr (vI r8) fun a hr => ?_
 refine evs 1 19 rfl (wn rfl) hr (vI r7) fun a hr => ?_
 refine evs 0 20 rfl (wn rfl) hr (vI r8) fun a hr => ?_
 refine een ?_
 refine then_normal ?_
 refine wp_seq ?_
 refine sr ?_
 refine oo [26, 27] [vI r8, vB (r8 == 0)] hr fun a hr => ?_
 refine ln ?_
 refine cD hr H (fun c15 H => ?_) fun c15 H => ?_
 ·
  refine wp_region_lit ?_
  obtain ⟨S16, e17, H⟩ := bd1 H
  refine oo [28, 29, 30, 31] [pA B0 0, pA B0 0, pA B0 0, vI r7] hr fun a hr => ?_
  replace h := h.m3
  have hc := frames_head_end_ok (H := e17) (h := h)
  refine cl (wn rfl) hr hc ?_; clear hc h
  rintro _ w ⟨rfl, h⟩; refine ⟨_, rfl, fun a hr => ?_⟩
  refine ln ?_
  refine sr ?_
  refine oo [33, 4] [vI r8, vI r8] hr fun a hr => ?_
  refine ln ?_
  refine wp_ret ?_
  refine end_ret1 (v := vI r8) rfl hr (by kernel_rfl) ?_
  obtain ⟨rfl, rfl, rfl⟩ := ej3 H
  exact ⟨caq11, ccq12, caq13, ccq14, rfl, h⟩
 ·
  refine wp_skip ?_
  refine then_normal ?_
  refine sr ?_
  refine oo [33, 4] [vI r8, vI r8] hr fun a hr => ?_
  refine ln ?_
  refine wp_ret ?_
  refine end_ret1 (v := vI r8) rfl hr (by kernel_rfl) ?_
  obtain ⟨rfl, rfl, rfl⟩ := ej3 H
  exact ⟨caq11, ccq12, caq13, ccq14, rfl, h.se 4 [3, 0, 1, 2]⟩

/-- (plunder/frames.Table).slot -/
def frames_Table__slot (p0 : T_frames_Table) (p1 : Int) (p2 : Int) : Option (Int) :=
  ob1 (frames_Table__join p0 p1) (fun r2 => some (wi ((wi (r2 + 2)) + p2)))

theorem frames_Table__slot_ok {z w : World} {L : List HProp} {p0 : T_frames_Table} {p1 p2 r0 : Int} (H : frames_Table__slot p0 p1 p2 = some r0) (h : Fit z (sepL (L)) w)  :
    Calls Try.prog 99 #[ag_T_frames_Table p0, vI p1, vI p2] w fun e w => e = .returned (vI r0) ∧ Fit z (sepL (L)) w := by
 unfold frames_Table__slot at H
 refine enter Try.func99 rfl 13 rfl rfl [(0, ag_T_frames_Table p0), (1, vI p1), (2, vI p2)] ⟨rfl, rfl, rfl, trivial⟩ ?_
 intro j a hr
 refine sr ?_
 refine onew (wn rfl) hr h nb (ca_T_frames_Table p0) 39 fun b1 w a h hr => ?_
 refine o1 hr (vI 0) fun a hr => ?_
 refine ln ?_
 refine sr ?_
 refine ldm (wn rfl) hr (ag_T_frames_Table p0) (cs := cl_T_frames_Table p0) (h.held 0 rfl) fun a hr => ?_
 obtain ⟨r2, e3, H⟩ := bd1 H
 refine o1 hr (vI p1) fun a hr => ?_
 have hc := frames_Table__join_ok (H := e3) (h := h)
 refine cl (wn rfl) hr hc ?_; clear hc h
 rintro _ w ⟨rfl, h⟩; refine ⟨_, rfl, fun a hr => ?_⟩
 refine oo [10, 11, 12, 6] [vI (wi (r2 + 2)), vI p2, vI (wi ((wi (r2 + 2)) + p2)), vI (wi ((wi (r2 + 2)) + p2))] hr fun a hr => ?_
 refine ln ?_
 refine wp_ret ?_
 refine end_ret1 (v := vI (wi ((wi (r2 + 2)) + p2))) rfl hr (by kernel_rfl) ?_
 replace H := ej1 H; subst H
 exact ⟨rfl, h.se 1 []⟩

/-- (*plunder/frames.Op).less -/
def frames_Op_less_iface (p0 : T_frames_Op) (p1 : T_cells_Arena) (p2 : Int) : Option (Int × T_frames_Op × T_cells_Arena) :=
  ob1 (frames_Table__join (⟨p0.head_t_Base, p0.head_t_Frames⟩ : T_frames_Table) p0.head_frame) (fun r5 => ob3 (cells_Arena_Add p1 r5 (-1)) (fun r7 r8 S9 => (if r8 = 0 then (if r7 = 0 then some (r8, p0, S9) else ob1 (frames_head_end p0 p2 r7) (fun S17 => some (r8, S17, S9))) else some (r8, p0, S9))))

theorem frames_Op_less_iface_ok {z w : World} {L : List HProp} {p0 q0 : T_frames_Op} {p1 q1 : T_cells_Arena} {p2 r0 : Int} {B0 B1 cc2 cc4 : Nat} {ca1 ca3 : Option Addr} (H : frames_Op_less_iface p0 p1 p2 = some (r0, q0, q1)) (h : Fit z (sepL (ob50 B0 p0 :: ob103 B1 p1 ca1 cc2 ca3 cc4 :: ro2 ca1 cc2 p1.cell :: ro96 ca3 cc4 p1.log :: L)) w)  :
    Calls Try.prog 100 #[pA B0 0, .iface 26 (pA B1 0), vI p2] w fun e w => ∃ caq1_1 ccq1_2 caq1_3 ccq1_4, e = .returned (vI r0) ∧ Fit z (sepL (ob50 B0 q0 :: ob103 B1 q1 caq1_1 ccq1_2 caq1_3 ccq1_4 :: ro2 caq1_1 ccq1_2 q1.cell :: ro96 caq1_3 ccq1_4 q1.log :: L)) w := by
 unfold frames_Op_less_iface at H
 refine enter Try.func100 rfl 41 rfl rfl [(0, pA B0 0), (1, .iface 26 (pA B1 0)), (2, vI p2)] ⟨rfl, rfl, rfl, trivial⟩ ?_
 intro j a hr
 refine sr ?_
 refine o1 hr (vI 0) fun a hr => ?_
 refine ln ?_
 refine wp_seq ?_
 obtain ⟨r5, e6, H⟩ := bd1 H
 obtain ⟨r7, r8, S9, e10, H⟩ := bd3 H
 refine regL [(B0, 0, [vI p0.head_t_Base, vI p0.head_t_Frames]), (B0, 2, [vI p0.head_frame])] [2, 3, 4, 7, 8, 9, 11, 12, 13] 21 h (fun h => ⟨(h.held 0 rfl), ⟨h.cell 2 rfl, trivial⟩, trivial⟩) fun w h hd => ?_
 refine evs' hd 9 [(0, 10, .iface 26 (pA B1 0)), (1, 11, pA B0 0), (2, 12, pA B0 0), (3, 13, pA B0 0), (4, 14, pA B0 0), (6, 16, pA B0 0), (7, 17, pA B0 0), (8, 18, pA B0 0), (9, 19, pA B0 2), (12, 22, .func (.method "Add") #[.iface 26 (pA B1 0)] #[]), (13, 23, .func (.method "Add") #[.iface 26 (pA B1 0)] #[]), (14, 24, .iface 26 (pA B1 0))] hr fun a hr => ?_
 refine elm hd 0 8 5 hr (wn rfl) rfl rfl fun a hr => ?_
 refine elx hd 1 7 10 hr (wn rfl) rfl rfl fun a hr => ?_
 refine eo1 11 rfl ?_
 have hc := frames_Table__join_ok (H := e6) (h := h)
 refine cl (wn rfl) hr hc ?_; clear hc h
 rintro _ w ⟨rfl, h⟩; refine ⟨_, rfl, fun a hr => ?_⟩
 refine ln ?_
 refine eE ⟨(h.held 0 rfl), ⟨h.cell 2 rfl, trivial⟩, trivial⟩ fun hd => ?_
 refine eo1 15 rfl ?_
 replace h := h.m3.m3.m3
 have hc := cells_Arena_Add_ok (H := e10) (h := h)
 refine cl (wn rfl) hr hc ?_; clear hc h
 rintro _ w ⟨caq11, ccq12, caq13, ccq14, rfl, h⟩; refine ⟨_, rfl, fun a hr => ?_⟩
 refine ln ?_
 refine xE ?_
 refine evs 4 16 rfl (wn rfl) hr (.tuple #[vI r7, vI r8]) fun a hr => ?_
 refine evs 3 17 rfl (wn rfl) hr (vI r7) fun a hr => ?_
 refine evs 2 18 rfl (wn rfl) hr (vI r8) fun a hr => ?_
 refine evs 1 19 rfl (wn rfl) hr (vI r7) fun a hr => ?_
 refine evs 0 20 rfl (wn rfl) hr (vI r8) fun a hr => ?_
 refine een ?_
 refine then_normal ?_
 refine wp_seq ?_
 refine sr ?_
 refine oo [28, 29, 30] [vI r8, vB (r8 == 0), vB (r8 == 0)] hr fun a hr => ?_
 by_cases c15 : r8 = 0
 ·
  replace H := ifT c15 H
  refine onl (beq_iff_eq.mpr c15) [31, 32] [vI r7, vB (r7 != 0)] hr fun a hr => ?_
  refine opv (wn rfl) hr (vB (r7 != 0)) (rp_t (b := (r8 == 0)) rfl (by kernel_rfl) (beq_iff_eq.mpr c15) (by kernel_rfl)) fun a hr => ?_
  refine ln ?_
  refine cN hr H (fun c16 H => ?_) fun c16 H => ?_
  ·
   refine wp_skip ?_
   refine then_normal ?_
   refine sr ?_
   refine oo [40, 6] [vI r8, vI r8] hr fun a hr => ?_
   refine ln ?_
   refine wp_ret ?_
   refine end_ret1 (v := vI r8) rfl hr (by kernel_rfl) ?_
   obtain ⟨rfl, rfl, rfl⟩ := ej3 H
   exact ⟨caq11, ccq12, caq13, ccq14, rfl, h.se 4 [3, 0, 1, 2]⟩
  ·
   refine wp_region_lit ?_
   obtain ⟨S17, e18, H⟩ := bd1 H
   refine oo [34, 35, 36, 37, 38] [pA B0 0, pA B0 0, pA B0 0, vI p2, vI r7] hr fun a hr => ?_
   replace h := h.m3
   have hc := frames_head_end_ok (H := e18) (h := h)
   refine cl (wn rfl) hr hc ?_; clear hc h
   rintro _ w ⟨rfl, h⟩; refine ⟨_, rfl, fun a hr => ?_⟩
   refine ln ?_
   refine sr ?_
   refine oo [40, 6] [vI r8, vI r8] hr fun a hr => ?_
   refine ln ?_
   refine wp_ret ?_
   refine end_ret1 (v := vI r8) rfl hr (by kernel_rfl) ?_
   obtain ⟨rfl, rfl, rfl⟩ := ej3 H
   exact ⟨caq11, ccq12, caq13, ccq14, rfl, h⟩
 ·
  replace H := ifF c15 H
  refine offl (beq_eq_false_iff_ne.mpr c15) [31, 32] hr fun a hr => ?_
  refine opv (wn rfl) hr (vB false) (rp_f (b := (r8 == 0)) rfl (by kernel_rfl) (beq_eq_false_iff_ne.mpr c15) (by kernel_rfl)) fun a hr => ?_
  refine ln ?_
  refine cond_ff hr (b := false) rfl ?_
  refine wp_skip ?_
  refine then_normal ?_
  refine sr ?_
  refine oo [40, 6] [vI r8, vI r8] hr fun a hr => ?_
  refine ln ?_
  refine wp_ret ?_
  refine end_ret1 (v := vI r8) rfl hr (by kernel_rfl) ?_
  obtain ⟨rfl, rfl, rfl⟩ := ej3 H
  exact ⟨caq11, ccq12, caq13, ccq14, rfl, h.se 4 [3, 0, 1, 2]⟩

/-- (*plunder/frames.Op).again -/
def frames_Op_again_iface (p0 : T_frames_Op) (p1 : T_cells_Arena) (p2 : Int) : Option (Int × T_frames_Op × T_cells_Arena) :=
  ob1 (frames_Table__join (⟨p0.head_t_Base, p0.head_t_Frames⟩ : T_frames_Table) p0.head_frame) (fun r5 => ob2 (cells_Arena_Store p1 r5 1) (fun r7 S8 => (if r7 = 0 then ob1 (frames_head_end p0 p2 0) (fun S15 => some (r7, S15, S8)) else some (r7, p0, S8))))

theorem frames_Op_again_iface_ok {z w : World} {L : List HProp} {p0 q0 : T_frames_Op} {p1 q1 : T_cells_Arena} {p2 r0 : Int} {B0 B1 cc2 cc4 : Nat} {ca1 ca3 : Option Addr} (H : frames_Op_again_iface p0 p1 p2 = some (r0, q0, q1)) (h : Fit z (sepL (ob50 B0 p0 :: ob103 B1 p1 ca1 cc2 ca3 cc4 :: ro2 ca1 cc2 p1.cell :: ro96 ca3 cc4 p1.log :: L)) w)  :
    Calls Try.prog 101 #[pA B0 0, .iface 26 (pA B1 0), vI p2] w fun e w => ∃ caq1_1 ccq1_2 caq1_3 ccq1_4, e = .returned (vI r0) ∧ Fit z (sepL (ob50 B0 q0 :: ob103 B1 q1 caq1_1 ccq1_2 caq1_3 ccq1_4 :: ro2 caq1_1 ccq1_2 q1.cell :: ro96 caq1_3 ccq1_4 q1.log :: L)) w := by
 unfold frames_Op_again_iface at H
 refine enter Try.func101 rfl 32 rfl rfl [(0, pA B0 0), (1, .iface 26 (pA B1 0)), (2, vI p2)] ⟨rfl, rfl, rfl, trivial⟩ ?_
 intro j a hr
 refine sr ?_
 refine o1 hr (vI 0) fun a hr => ?_
 refine ln ?_
 refine wp_seq ?_
 obtain ⟨r5, e6, H⟩ := bd1 H
 obtain ⟨r7, S8, e9, H⟩ := bd2 H
 refine regL [(B0, 0, [vI p0.head_t_Base, vI p0.head_t_Frames]), (B0, 2, [vI p0.head_frame])] [2, 3, 4, 7, 8, 9, 11, 12, 13] 17 h (fun h => ⟨(h.held 0 rfl), ⟨h.cell 2 rfl, trivial⟩, trivial⟩) fun w h hd => ?_
 refine evs' hd 5 [(0, 8, .iface 26 (pA B1 0)), (1, 9, pA B0 0), (2, 10, pA B0 0), (3, 11, pA B0 0), (4, 12, pA B0 0), (6, 14, pA B0 0), (7, 15, pA B0 0), (8, 16, pA B0 0), (9, 17, pA B0 2), (12, 20, .func (.method "Store") #[.iface 26 (pA B1 0)] #[]), (13, 21, .func (.method "Store") #[.iface 26 (pA B1 0)] #[]), (14, 22, .iface 26 (pA B1 0))] hr fun a hr => ?_
 refine elm hd 0 4 5 hr (wn rfl) rfl rfl fun a hr => ?_
 refine elx hd 1 3 10 hr (wn rfl) rfl rfl fun a hr => ?_
 refine eo1 11 rfl ?_
 have hc := frames_Table__join_ok (H := e6) (h := h)
 refine cl (wn rfl) hr hc ?_; clear hc h
 rintro _ w ⟨rfl, h⟩; refine ⟨_, rfl, fun a hr => ?_⟩
 refine ln ?_
 refine eE ⟨(h.held 0 rfl), ⟨h.cell 2 rfl, trivial⟩, trivial⟩ fun hd => ?_
 refine eo1 15 rfl ?_
 replace h := h.m3.m3.m3
 have hc := cells_Arena_Store_ok (H := e9) (h := h)
 refine cl (wn rfl) hr hc ?_; clear hc h
 rintro _ w ⟨caq10, ccq11, caq12, ccq13, rfl, h⟩; refine ⟨_, rfl, fun a hr => ?_⟩
 refine ln ?_
 refine xE ?_
 refine evs 0 16 rfl (wn rfl) hr (vI r7) fun a hr => ?_
 refine een ?_
 refine then_normal ?_
 refine wp_seq ?_
 refine sr ?_
 refine oo [24, 25] [vI r7, vB (r7 == 0)] hr fun a hr => ?_
 refine ln ?_
 refine cD hr H (fun c14 H => ?_) fun c14 H => ?_
 ·
  refine wp_region_lit ?_
  obtain ⟨S15, e16, H⟩ := bd1 H
  refine oo [26, 27, 28, 29] [pA B0 0, pA B0 0, pA B0 0, vI p2] hr fun a hr => ?_
  replace h := h.m3
  have hc := frames_head_end_ok (H := e16) (h := h)
  refine cl (wn rfl) hr hc ?_; clear hc h
  rintro _ w ⟨rfl, h⟩; refine ⟨_, rfl, fun a hr => ?_⟩
  refine ln ?_
  refine sr ?_
  refine oo [31, 6] [vI r7, vI r7] hr fun a hr => ?_
  refine ln ?_
  refine wp_ret ?_
  refine end_ret1 (v := vI r7) rfl hr (by kernel_rfl) ?_
  obtain ⟨rfl, rfl, rfl⟩ := ej3 H
  exact ⟨caq10, ccq11, caq12, ccq13, rfl, h⟩
 ·
  refine wp_skip ?_
  refine then_normal ?_
  refine sr ?_
  refine oo [31, 6] [vI r7, vI r7] hr fun a hr => ?_
  refine ln ?_
  refine wp_ret ?_
  refine end_ret1 (v := vI r7) rfl hr (by kernel_rfl) ?_
  obtain ⟨rfl, rfl, rfl⟩ := ej3 H
  exact ⟨caq10, ccq11, caq12, ccq13, rfl, h.se 4 [3, 0, 1, 2]⟩

/-- (*plunder/frames.Op).finish -/
def frames_Op_finish_iface (p0 : T_frames_Op) (p1 : T_cells_Arena) : Option (Int × T_frames_Op × T_cells_Arena) :=
  (if p0.head_stands = 1 then ob1 (frames_Table__slot (⟨p0.head_t_Base, p0.head_t_Frames⟩ : T_frames_Table) p0.head_frame p0.slot) (fun r6 => ob2 (cells_Arena_Store p1 r6 p0.give) (fun r8 S9 => some (r8, p0, S9))) else (if p0.head_stands = 2 then ob3 (frames_Op_less_iface p0 p1 10) (fun r16 S17 S18 => some (r16, S17, S18)) else ob3 (frames_Op_again_iface p0 p1 11) (fun r24 S25 S26 => some (r24, S25, S26))))

theorem frames_Op_finish_iface_ok {z w : World} {L : List HProp} {p0 q0 : T_frames_Op} {p1 q1 : T_cells_Arena} {B0 B1 cc2 cc4 : Nat} {ca1 ca3 : Option Addr} {r0 : Int} (H : frames_Op_finish_iface p0 p1 = some (r0, q0, q1)) (h : Fit z (sepL (ob50 B0 p0 :: ob103 B1 p1 ca1 cc2 ca3 cc4 :: ro2 ca1 cc2 p1.cell :: ro96 ca3 cc4 p1.log :: L)) w)  :
    Calls Try.prog 83 #[pA B0 0, .iface 26 (pA B1 0)] w fun e w => ∃ caq1_1 ccq1_2 caq1_3 ccq1_4, e = .returned (vI r0) ∧ Fit z (sepL (ob50 B0 q0 :: ob103 B1 q1 caq1_1 ccq1_2 caq1_3 ccq1_4 :: ro2 caq1_1 ccq1_2 q1.cell :: ro96 caq1_3 ccq1_4 q1.log :: L)) w := by
 unfold frames_Op_finish_iface at H
 refine enter Try.func83 rfl 44 rfl rfl [(0, pA B0 0), (1, .iface 26 (pA B1 0))] ⟨rfl, rfl, trivial⟩ ?_
 intro j a hr
 refine sr ?_
 refine o1 hr (vI 0) fun a hr => ?_
 refine ln ?_
 refine wp_seq ?_
 refine sr ?_
 refine oo [5, 6, 7, 8] [pA B0 0, pA B0 0, pA B0 0, pA B0 3] hr fun a hr => ?_
 refine ld (wn rfl) hr (vI p0.head_stands) (h.cell 3 rfl) fun a hr => ?_
 refine ln ?_
 refine wp_block ?_
 refine sr ?_
 refine oo [11, 10] [vB (p0.head_stands == 1), vB (p0.head_stands == 1)] hr fun a hr => ?_
 refine ln ?_
 refine cD hr H (fun c5 H => ?_) fun c5 H => ?_
 ·
  refine wp_seq ?_
  obtain ⟨r6, e7, H⟩ := bd1 H
  obtain ⟨r8, S9, e10, H⟩ := bd2 H
  refine regL [(B0, 0, [vI p0.head_t_Base, vI p0.head_t_Frames]), (B0, 2, [vI p0.head_frame]), (B0, 7, [vI p0.slot]), (B0, 8, [vI p0.give])] [2, 3, 4, 7, 8, 9, 12, 13, 15, 17, 18, 20, 21] 25 h (fun h => ⟨(h.held 0 rfl), ⟨h.cell 2 rfl, trivial⟩, ⟨h.cell 7 rfl, trivial⟩, ⟨h.cell 8 rfl, trivial⟩, trivial⟩) fun w h hd => ?_
  refine evs' hd 7 [(0, 12, .iface 26 (pA B1 0)), (1, 13, pA B0 0), (2, 14, pA B0 0), (3, 15, pA B0 0), (4, 16, pA B0 0), (6, 18, pA B0 0), (7, 19, pA B0 0), (8, 20, pA B0 0), (9, 21, pA B0 2), (11, 23, pA B0 0), (12, 24, pA B0 0), (13, 25, pA B0 7), (16, 28, pA B0 0), (17, 29, pA B0 0), (18, 30, pA B0 8), (20, 32, .func (.method "Store") #[.iface 26 (pA B1 0)] #[]), (21, 33, .func (.method "Store") #[.iface 26 (pA B1 0)] #[]), (22, 34, .iface 26 (pA B1 0))] hr fun a hr => ?_
  refine elm hd 0 6 5 hr (wn rfl) rfl rfl fun a hr => ?_
  refine elx hd 1 5 10 hr (wn rfl) rfl rfl fun a hr => ?_
  refine elx hd 2 4 14 hr (wn rfl) rfl rfl fun a hr => ?_
  refine elx hd 3 3 19 hr (wn rfl) rfl rfl fun a hr => ?_
  refine eo1 15 rfl ?_
  have hc := frames_Table__slot_ok (H := e7) (h := h)
  refine cl (wn rfl) hr hc ?_; clear hc h
  rintro _ w ⟨rfl, h⟩; refine ⟨_, rfl, fun a hr => ?_⟩
  refine ln ?_
  refine eE ⟨(h.held 0 rfl), ⟨h.cell 2 rfl, trivial⟩, ⟨h.cell 7 rfl, trivial⟩, ⟨h.cell 8 rfl, trivial⟩, trivial⟩ fun hd => ?_
  refine eo1 23 rfl ?_
  replace h := h.m3.m3.m3
  have hc := cells_Arena_Store_ok (H := e10) (h := h)
  refine cl (wn rfl) hr hc ?_; clear hc h
  rintro _ w ⟨caq11, ccq12, caq13, ccq14, rfl, h⟩; refine ⟨_, rfl, fun a hr => ?_⟩
  refine ln ?_
  refine xE ?_
  refine evs 0 24 rfl (wn rfl) hr (vI r8) fun a hr => ?_
  refine een ?_
  refine then_normal ?_
  refine wp_ret ?_
  refine blk_ret ?_
  refine then_ret ?_
  refine end_ret1 (v := vI r8) rfl hr (by kernel_rfl) ?_
  obtain ⟨rfl, rfl, rfl⟩ := ej3 H
  exact ⟨caq11, ccq12, caq13, ccq14, rfl, h.se 4 [3, 0, 1, 2]⟩
 ·
  refine sr ?_
  refine oo [37, 36] [vB (p0.head_stands == 2), vB (p0.head_stands == 2)] hr fun a hr => ?_
  refine ln ?_
  refine cD hr H (fun c15 H => ?_) fun c15 H => ?_
  ·
   refine sr ?_
   obtain ⟨r16, S17, S18, e19, H⟩ := bd3 H
   refine oo [38, 39] [pA B0 0, .iface 26 (pA B1 0)] hr fun a hr => ?_
   have hc := frames_Op_less_iface_ok (H := e19) (h := h)
   refine cl (wn rfl) hr hc ?_; clear hc h
   rintro _ w ⟨caq20, ccq21, caq22, ccq23, rfl, h⟩; refine ⟨_, rfl, fun a hr => ?_⟩
   refine o1 hr (vI r16) fun a hr => ?_
   refine ln ?_
   refine wp_ret ?_
   refine blk_ret ?_
   refine then_ret ?_
   refine end_ret1 (v := vI r16) rfl hr (by kernel_rfl) ?_
   obtain ⟨rfl, rfl, rfl⟩ := ej3 H
   exact ⟨caq20, ccq21, caq22, ccq23, rfl, h⟩
  ·
   refine wp_skip ?_
   refine blk_normal ?_
   refine then_normal ?_
   refine sr ?_
   obtain ⟨r24, S25, S26, e27, H⟩ := bd3 H
   refine oo [41, 42] [pA B0 0, .iface 26 (pA B1 0)] hr fun a hr => ?_
   have hc := frames_Op_again_iface_ok (H := e27) (h := h)
   refine cl (wn rfl) hr hc ?_; clear hc h
   rintro _ w ⟨caq28, ccq29, caq30, ccq31, rfl, h⟩; refine ⟨_, rfl, fun a hr => ?_⟩
   refine o1 hr (vI r24) fun a hr => ?_
   refine ln ?_
   refine wp_ret ?_
   refine end_ret1 (v := vI r24) rfl hr (by kernel_rfl) ?_
   obtain ⟨rfl, rfl, rfl⟩ := ej3 H
   exact ⟨caq28, ccq29, caq30, ccq31, rfl, h⟩

/-- (*plunder/frames.Op).sync -/
def frames_Op_sync_iface (p0 : T_frames_Op) (p1 : T_cells_Arena) : Option (Int × T_frames_Op × T_cells_Arena) :=
  (if p0.head_stands = 1 then ob3 (frames_Op_less_iface p0 p1 12) (fun r6 S7 S8 => some (r6, S7, S8)) else ob3 (frames_Op_again_iface p0 p1 13) (fun r14 S15 S16 => some (r14, S15, S16)))

theorem frames_Op_sync_iface_ok {z w : World} {L : List HProp} {p0 q0 : T_frames_Op} {p1 q1 : T_cells_Arena} {B0 B1 cc2 cc4 : Nat} {ca1 ca3 : Option Addr} {r0 : Int} (H : frames_Op_sync_iface p0 p1 = some (r0, q0, q1)) (h : Fit z (sepL (ob50 B0 p0 :: ob103 B1 p1 ca1 cc2 ca3 cc4 :: ro2 ca1 cc2 p1.cell :: ro96 ca3 cc4 p1.log :: L)) w)  :
    Calls Try.prog 84 #[pA B0 0, .iface 26 (pA B1 0)] w fun e w => ∃ caq1_1 ccq1_2 caq1_3 ccq1_4, e = .returned (vI r0) ∧ Fit z (sepL (ob50 B0 q0 :: ob103 B1 q1 caq1_1 ccq1_2 caq1_3 ccq1_4 :: ro2 caq1_1 ccq1_2 q1.cell :: ro96 caq1_3 ccq1_4 q1.log :: L)) w := by
 unfold frames_Op_sync_iface at H
 refine enter Try.func84 rfl 17 rfl rfl [(0, pA B0 0), (1, .iface 26 (pA B1 0))] ⟨rfl, rfl, trivial⟩ ?_
 intro j a hr
 refine sr ?_
 refine o1 hr (vI 0) fun a hr => ?_
 refine ln ?_
 refine wp_seq ?_
 refine sr ?_
 refine oo [5, 6, 7, 8] [pA B0 0, pA B0 0, pA B0 0, pA B0 3] hr fun a hr => ?_
 refine ld (wn rfl) hr (vI p0.head_stands) (h.cell 3 rfl) fun a hr => ?_
 refine o1 hr (vB (p0.head_stands == 1)) fun a hr => ?_
 refine ln ?_
 refine cD hr H (fun c5 H => ?_) fun c5 H => ?_
 ·
  refine sr ?_
  obtain ⟨r6, S7, S8, e9, H⟩ := bd3 H
  refine oo [11, 12] [pA B0 0, .iface 26 (pA B1 0)] hr fun a hr => ?_
  have hc := frames_Op_less_iface_ok (H := e9) (h := h)
  refine cl (wn rfl) hr hc ?_; clear hc h
  rintro _ w ⟨caq10, ccq11, caq12, ccq13, rfl, h⟩; refine ⟨_, rfl, fun a hr => ?_⟩
  refine o1 hr (vI r6) fun a hr => ?_
  refine ln ?_
  refine wp_ret ?_
  refine then_ret ?_
  refine end_ret1 (v := vI r6) rfl hr (by kernel_rfl) ?_
  obtain ⟨rfl, rfl, rfl⟩ := ej3 H
  exact ⟨caq10, ccq11, caq12, ccq13, rfl, h⟩
 ·
  refine wp_skip ?_
  refine then_normal ?_
  refine sr ?_
  obtain ⟨r14, S15, S16, e17, H⟩ := bd3 H
  refine oo [14, 15] [pA B0 0, .iface 26 (pA B1 0)] hr fun a hr => ?_
  have hc := frames_Op_again_iface_ok (H := e17) (h := h)
  refine cl (wn rfl) hr hc ?_; clear hc h
  rintro _ w ⟨caq18, ccq19, caq20, ccq21, rfl, h⟩; refine ⟨_, rfl, fun a hr => ?_⟩
  refine o1 hr (vI r14) fun a hr => ?_
  refine ln ?_
  refine wp_ret ?_
  refine end_ret1 (v := vI r14) rfl hr (by kernel_rfl) ?_
  obtain ⟨rfl, rfl, rfl⟩ := ej3 H
  exact ⟨caq18, ccq19, caq20, ccq21, rfl, h⟩

/-- (plunder/frames.Table).mark -/
def frames_Table__mark (p0 : T_frames_Table) (p1 : Int) : Option (Int) :=
  ob1 (frames_Table__join p0 p1) (fun r2 => some (wi (r2 + 1)))

theorem frames_Table__mark_ok {z w : World} {L : List HProp} {p0 : T_frames_Table} {p1 r0 : Int} (H : frames_Table__mark p0 p1 = some r0) (h : Fit z (sepL (L)) w)  :
    Calls Try.prog 77 #[ag_T_frames_Table p0, vI p1] w fun e w => e = .returned (vI r0) ∧ Fit z (sepL (L)) w := by
 unfold frames_Table__mark at H
 refine enter Try.func77 rfl 9 rfl rfl [(0, ag_T_frames_Table p0), (1, vI p1)] ⟨rfl, rfl, trivial⟩ ?_
 intro j a hr
 refine sr ?_
 refine onew (wn rfl) hr h nb (ca_T_frames_Table p0) 39 fun b1 w a h hr => ?_
 refine o1 hr (vI 0) fun a hr => ?_
 refine ln ?_
 refine sr ?_
 refine ldm (wn rfl) hr (ag_T_frames_Table p0) (cs := cl_T_frames_Table p0) (h.held 0 rfl) fun a hr => ?_
 obtain ⟨r2, e3, H⟩ := bd1 H
 refine o1 hr (vI p1) fun a hr => ?_
 have hc := frames_Table__join_ok (H := e3) (h := h)
 refine cl (wn rfl) hr hc ?_; clear hc h
 rintro _ w ⟨rfl, h⟩; refine ⟨_, rfl, fun a hr => ?_⟩
 refine oo [8, 4] [vI (wi (r2 + 1)), vI (wi (r2 + 1))] hr fun a hr => ?_
 refine ln ?_
 refine wp_ret ?_
 refine end_ret1 (v := vI (wi (r2 + 1))) rfl hr (by kernel_rfl) ?_
 replace H := ej1 H; subst H
 exact ⟨rfl, h.se 1 []⟩

/-- (*plunder/frames.Op).start -/
def frames_Op_start_iface (p0 : T_frames_Op) (p1 : T_cells_Arena) : Option (Int × T_frames_Op × T_cells_Arena) :=
  ob1 (frames_Table__mark (⟨p0.head_t_Base, p0.head_t_Frames⟩ : T_frames_Table) p0.head_frame) (fun r5 => ob3 (cells_Arena_Add p1 r5 1) (fun r7 r8 S9 => (if r8 = 0 then ob1 (frames_head_end p0 14 r7) (fun S16 => some (r8, S16, S9)) else some (r8, p0, S9))))

theorem frames_Op_start_iface_ok {z w : World} {L : List HProp} {p0 q0 : T_frames_Op} {p1 q1 : T_cells_Arena} {B0 B1 cc2 cc4 : Nat} {ca1 ca3 : Option Addr} {r0 : Int} (H : frames_Op_start_iface p0 p1 = some (r0, q0, q1)) (h : Fit z (sepL (ob50 B0 p0 :: ob103 B1 p1 ca1 cc2 ca3 cc4 :: ro2 ca1 cc2 p1.cell :: ro96 ca3 cc4 p1.log :: L)) w)  :
    Calls Try.prog 85 #[pA B0 0, .iface 26 (pA B1 0)] w fun e w => ∃ caq1_1 ccq1_2 caq1_3 ccq1_4, e = .returned (vI r0) ∧ Fit z (sepL (ob50 B0 q0 :: ob103 B1 q1 caq1_1 ccq1_2 caq1_3 ccq1_4 :: ro2 caq1_1 ccq1_2 q1.cell :: ro96 caq1_3 ccq1_4 q1.log :: L)) w := by
 unfold frames_Op_start_iface at H
 refine enter Try.func85 rfl 34 rfl rfl [(0, pA B0 0), (1, .iface 26 (pA B1 0))] ⟨rfl, rfl, trivial⟩ ?_
 intro j a hr
 refine sr ?_
 refine o1 hr (vI 0) fun a hr => ?_
 refine ln ?_
 refine wp_seq ?_
 obtain ⟨r5, e6, H⟩ := bd1 H
 obtain ⟨r7, r8, S9, e10, H⟩ := bd3 H
 refine regL [(B0, 0, [vI p0.head_t_Base, vI p0.head_t_Frames]), (B0, 2, [vI p0.head_frame])] [2, 3, 4, 7, 8, 9, 11, 12, 13] 21 h (fun h => ⟨(h.held 0 rfl), ⟨h.cell 2 rfl, trivial⟩, trivial⟩) fun w h hd => ?_
 refine evs' hd 9 [(0, 8, .iface 26 (pA B1 0)), (1, 9, pA B0 0), (2, 10, pA B0 0), (3, 11, pA B0 0), (4, 12, pA B0 0), (6, 14, pA B0 0), (7, 15, pA B0 0), (8, 16, pA B0 0), (9, 17, pA B0 2), (12, 20, .func (.method "Add") #[.iface 26 (pA B1 0)] #[]), (13, 21, .func (.method "Add") #[.iface 26 (pA B1 0)] #[]), (14, 22, .iface 26 (pA B1 0))] hr fun a hr => ?_
 refine elm hd 0 8 5 hr (wn rfl) rfl rfl fun a hr => ?_
 refine elx hd 1 7 10 hr (wn rfl) rfl rfl fun a hr => ?_
 refine eo1 11 rfl ?_
 have hc := frames_Table__mark_ok (H := e6) (h := h)
 refine cl (wn rfl) hr hc ?_; clear hc h
 rintro _ w ⟨rfl, h⟩; refine ⟨_, rfl, fun a hr => ?_⟩
 refine ln ?_
 refine eE ⟨(h.held 0 rfl), ⟨h.cell 2 rfl, trivial⟩, trivial⟩ fun hd => ?_
 refine eo1 15 rfl ?_
 replace h := h.m3.m3.m3
 have hc := cells_Arena_Add_ok (H := e10) (h := h)
 refine cl (wn rfl) hr hc ?_; clear hc h
 rintro _ w ⟨caq11, ccq12, caq13, ccq14, rfl, h⟩; refine ⟨_, rfl, fun a hr => ?_⟩
 refine ln ?_
 refine xE ?_
 refine evs 4 16 rfl (wn rfl) hr (.tuple #[vI r7, vI r8]) fun a hr => ?_
 refine evs 3 17 rfl (wn rfl) hr (vI r7) fun a hr => ?_
 refine evs 2 18 rfl (wn rfl) hr (vI r8) fun a hr => ?_
 refine evs 1 19 rfl (wn rfl) hr (vI r7) fun a hr => ?_
 refine evs 0 20 rfl (wn rfl) hr (vI r8) fun a hr => ?_
 refine een ?_
 refine then_normal ?_
 refine wp_seq ?_
 refine sr ?_
 refine oo [26, 27] [vI r8, vB (r8 == 0)] hr fun a hr => ?_
 refine ln ?_
 refine cD hr H (fun c15 H => ?_) fun c15 H => ?_
 ·
  refine wp_region_lit ?_
  obtain ⟨S16, e17, H⟩ := bd1 H
  refine oo [28, 29, 30, 31] [pA B0 0, pA B0 0, pA B0 0, vI r7] hr fun a hr => ?_
  replace h := h.m3
  have hc := frames_head_end_ok (H := e17) (h := h)
  refine cl (wn rfl) hr hc ?_; clear hc h
  rintro _ w ⟨rfl, h⟩; refine ⟨_, rfl, fun a hr => ?_⟩
  refine ln ?_
  refine sr ?_
  refine oo [33, 4] [vI r8, vI r8] hr fun a hr => ?_
  refine ln ?_
  refine wp_ret ?_
  refine end_ret1 (v := vI r8) rfl hr (by kernel_rfl) ?_
  obtain ⟨rfl, rfl, rfl⟩ := ej3 H
  exact ⟨caq11, ccq12, caq13, ccq14, rfl, h⟩
 ·
  refine wp_skip ?_
  refine then_normal ?_
  refine sr ?_
  refine oo [33, 4] [vI r8, vI r8] hr fun a hr => ?_
  refine ln ?_
  refine wp_ret ?_
  refine end_ret1 (v := vI r8) rfl hr (by kernel_rfl) ?_
  obtain ⟨rfl, rfl, rfl⟩ := ej3 H
  exact ⟨caq11, ccq12, caq13, ccq14, rfl, h.se 4 [3, 0, 1, 2]⟩

/-- (*plunder/cells.Arena).Load -/
def cells_Arena_Load (p0 : T_cells_Arena) (p1 : Int) : Option (Int × Int × T_cells_Arena) :=
  ob1 (cells_Arena_outside p0 p1) (fun r5 => (if r5 = true then some (0, 20, p0) else if inr_ p1 p0.cell.length then ob1 (cells_Arena_note p0 0 p1 (at_ p0.cell p1.toNat) 0 true) (fun S9 => some ((at_ p0.cell p1.toNat), 0, S9)) else none))

theorem cells_Arena_Load_ok {z w : World} {L : List HProp} {p0 q0 : T_cells_Arena} {p1 r0 r1 : Int} {B0 cc2 cc4 : Nat} {ca1 ca3 : Option Addr} (H : cells_Arena_Load p0 p1 = some (r0, r1, q0)) (h : Fit z (sepL (ob103 B0 p0 ca1 cc2 ca3 cc4 :: ro2 ca1 cc2 p0.cell :: ro96 ca3 cc4 p0.log :: L)) w)  :
    Calls Try.prog 123 #[pA B0 0, vI p1] w fun e w => ∃ caq0_1 ccq0_2 caq0_3 ccq0_4, e = .returned (.tuple #[vI r0, vI r1]) ∧ Fit z (sepL (ob103 B0 q0 caq0_1 ccq0_2 caq0_3 ccq0_4 :: ro2 caq0_1 ccq0_2 q0.cell :: ro96 caq0_3 ccq0_4 q0.log :: L)) w := by
 unfold cells_Arena_Load at H
 refine enter Try.func123 rfl 22 rfl rfl [(0, pA B0 0), (1, vI p1)] ⟨rfl, rfl, trivial⟩ ?_
 intro j a hr
 refine sr ?_
 refine oo [4, 5] [vI 0, vI 0] hr fun a hr => ?_
 refine ln ?_
 refine wp_seq ?_
 refine sr ?_
 obtain ⟨r5, e6, H⟩ := bd1 H
 refine oo [7, 8] [pA B0 0, vI p1] hr fun a hr => ?_
 have hc := cells_Arena_outside_ok (H := e6) (h := h)
 refine cl (wn rfl) hr hc ?_; clear hc h
 rintro _ w ⟨rfl, h⟩; refine ⟨_, rfl, fun a hr => ?_⟩
 refine ln ?_
 refine cV hr H (fun c7 H => ?_) fun c7 H => ?_
 ·
  refine sr ?_
  refine oo [4, 5] [vI 0, vI 20] hr fun a hr => ?_
  refine ln ?_
  refine wp_ret ?_
  refine then_ret ?_
  refine end_ret2 (v := vI 0) (v' := vI 20) rfl hr (by kernel_rfl) (by kernel_rfl) ?_
  obtain ⟨rfl, rfl, rfl⟩ := ej3 H
  exact ⟨ca1, cc2, ca3, cc4, rfl, h⟩
 ·
  refine wp_skip ?_
  refine then_normal ?_
  refine sr ?_
  refine oo [10, 11, 12] [pA B0 0, pA B0 0, pA B0 2] hr fun a hr => ?_
  refine ld (wn rfl) hr (.slice ca1 p0.cell.length cc2) (h.cell 2 rfl) fun a hr => ?_
  obtain ⟨c8, H⟩ := gd H
  refine o1 hr (vI p1) fun a hr => ?_
  refine opv (wn rfl) hr (pA (blk ca1) (p1.toNat * 1)) (ri_row (k := .i64) (E := 2) rfl (by kernel_rfl) (by kernel_rfl) (by kernel_rfl) (by kernel_rfl) (h.pick 1) c8) fun a hr => ?_
  refine ld (wn rfl) hr (vI (at_ p0.cell p1.toNat)) ((h.pick 1).row_cell encZ_i64_ok (f := 0) (at_ok c8) rfl) fun a hr => ?_
  refine o1 hr (vI (at_ p0.cell p1.toNat)) fun a hr => ?_
  refine ln ?_
  refine sr ?_
  obtain ⟨S9, e10, H⟩ := bd1 H
  refine oo [17, 18, 19] [pA B0 0, vI p1, vI (at_ p0.cell p1.toNat)] hr fun a hr => ?_
  have hc := cells_Arena_note_ok (H := e10) (h := h)
  refine cl (wn rfl) hr hc ?_; clear hc h
  rintro _ w ⟨caq11, ccq12, caq13, ccq14, rfl, h⟩; refine ⟨_, rfl, fun a hr => ?_⟩
  refine ln ?_
  refine sr ?_
  refine oo [21, 4, 5] [vI (at_ p0.cell p1.toNat), vI (at_ p0.cell p1.toNat), vI 0] hr fun a hr => ?_
  refine ln ?_
  refine wp_ret ?_
  refine end_ret2 (v := vI (at_ p0.cell p1.toNat)) (v' := vI 0) rfl hr (by kernel_rfl) (by kernel_rfl) ?_
  obtain ⟨rfl, rfl, rfl⟩ := ej3 H
  exact ⟨caq11, ccq12, caq13, ccq14, rfl, h⟩

/-- (*plunder/frames.Op).fetch -/
def frames_Op_fetch_iface (p0 : T_frames_Op) (p1 : T_cells_Arena) : Option (Int × T_frames_Op × T_cells_Arena) :=
  ob1 (frames_Table__slot (⟨p0.head_t_Base, p0.head_t_Frames⟩ : T_frames_Table) p0.head_frame p0.slot) (fun r5 => ob3 (cells_Arena_Load p1 r5) (fun r7 r8 S9 => (if r8 = 0 then ob1 (frames_head_end p0 15 r7) (fun S16 => some (r8, S16, S9)) else some (r8, p0, S9))))

theorem frames_Op_fetch_iface_ok {z w : World} {L : List HProp} {p0 q0 : T_frames_Op} {p1 q1 : T_cells_Arena} {B0 B1 cc2 cc4 : Nat} {ca1 ca3 : Option Addr} {r0 : Int} (H : frames_Op_fetch_iface p0 p1 = some (r0, q0, q1)) (h : Fit z (sepL (ob50 B0 p0 :: ob103 B1 p1 ca1 cc2 ca3 cc4 :: ro2 ca1 cc2 p1.cell :: ro96 ca3 cc4 p1.log :: L)) w)  :
    Calls Try.prog 86 #[pA B0 0, .iface 26 (pA B1 0)] w fun e w => ∃ caq1_1 ccq1_2 caq1_3 ccq1_4, e = .returned (vI r0) ∧ Fit z (sepL (ob50 B0 q0 :: ob103 B1 q1 caq1_1 ccq1_2 caq1_3 ccq1_4 :: ro2 caq1_1 ccq1_2 q1.cell :: ro96 caq1_3 ccq1_4 q1.log :: L)) w := by
 unfold frames_Op_fetch_iface at H
 refine enter Try.func86 rfl 38 rfl rfl [(0, pA B0 0), (1, .iface 26 (pA B1 0))] ⟨rfl, rfl, trivial⟩ ?_
 intro j a hr
 refine sr ?_
 refine o1 hr (vI 0) fun a hr => ?_
 refine ln ?_
 refine wp_seq ?_
 obtain ⟨r5, e6, H⟩ := bd1 H
 obtain ⟨r7, r8, S9, e10, H⟩ := bd3 H
 refine regL [(B0, 0, [vI p0.head_t_Base, vI p0.head_t_Frames]), (B0, 2, [vI p0.head_frame]), (B0, 7, [vI p0.slot])] [2, 3, 4, 7, 8, 9, 12, 13, 15, 16, 17] 25 h (fun h => ⟨(h.held 0 rfl), ⟨h.cell 2 rfl, trivial⟩, ⟨h.cell 7 rfl, trivial⟩, trivial⟩) fun w h hd => ?_
 refine evs' hd 10 [(0, 8, .iface 26 (pA B1 0)), (1, 9, pA B0 0), (2, 10, pA B0 0), (3, 11, pA B0 0), (4, 12, pA B0 0), (6, 14, pA B0 0), (7, 15, pA B0 0), (8, 16, pA B0 0), (9, 17, pA B0 2), (11, 19, pA B0 0), (12, 20, pA B0 0), (13, 21, pA B0 7), (16, 24, .func (.method "Load") #[.iface 26 (pA B1 0)] #[]), (17, 25, .func (.method "Load") #[.iface 26 (pA B1 0)] #[]), (18, 26, .iface 26 (pA B1 0))] hr fun a hr => ?_
 refine elm hd 0 9 5 hr (wn rfl) rfl rfl fun a hr => ?_
 refine elx hd 1 8 10 hr (wn rfl) rfl rfl fun a hr => ?_
 refine elx hd 2 7 14 hr (wn rfl) rfl rfl fun a hr => ?_
 refine eo1 15 rfl ?_
 have hc := frames_Table__slot_ok (H := e6) (h := h)
 refine cl (wn rfl) hr hc ?_; clear hc h
 rintro _ w ⟨rfl, h⟩; refine ⟨_, rfl, fun a hr => ?_⟩
 refine ln ?_
 refine eE ⟨(h.held 0 rfl), ⟨h.cell 2 rfl, trivial⟩, ⟨h.cell 7 rfl, trivial⟩, trivial⟩ fun hd => ?_
 refine eo1 19 rfl ?_
 replace h := h.m3.m3.m3
 have hc := cells_Arena_Load_ok (H := e10) (h := h)
 refine cl (wn rfl) hr hc ?_; clear hc h
 rintro _ w ⟨caq11, ccq12, caq13, ccq14, rfl, h⟩; refine ⟨_, rfl, fun a hr => ?_⟩
 refine ln ?_
 refine xE ?_
 refine evs 4 20 rfl (wn rfl) hr (.tuple #[vI r7, vI r8]) fun a hr => ?_
 refine evs 3 21 rfl (wn rfl) hr (vI r7) fun a hr => ?_
 refine evs 2 22 rfl (wn rfl) hr (vI r8) fun a hr => ?_
 refine evs 1 23 rfl (wn rfl) hr (vI r7) fun a hr => ?_
 refine evs 0 24 rfl (wn rfl) hr (vI r8) fun a hr => ?_
 refine een ?_
 refine then_normal ?_
 refine wp_seq ?_
 refine sr ?_
 refine oo [30, 31] [vI r8, vB (r8 == 0)] hr fun a hr => ?_
 refine ln ?_
 refine cD hr H (fun c15 H => ?_) fun c15 H => ?_
 ·
  refine wp_region_lit ?_
  obtain ⟨S16, e17, H⟩ := bd1 H
  refine oo [32, 33, 34, 35] [pA B0 0, pA B0 0, pA B0 0, vI r7] hr fun a hr => ?_
  replace h := h.m3
  have hc := frames_head_end_ok (H := e17) (h := h)
  refine cl (wn rfl) hr hc ?_; clear hc h
  rintro _ w ⟨rfl, h⟩; refine ⟨_, rfl, fun a hr => ?_⟩
  refine ln ?_
  refine sr ?_
  refine oo [37, 4] [vI r8, vI r8] hr fun a hr => ?_
  refine ln ?_
  refine wp_ret ?_
  refine end_ret1 (v := vI r8) rfl hr (by kernel_rfl) ?_
  obtain ⟨rfl, rfl, rfl⟩ := ej3 H
  exact ⟨caq11, ccq12, caq13, ccq14, rfl, h⟩
 ·
  refine wp_skip ?_
  refine then_normal ?_
  refine sr ?_
  refine oo [37, 4] [vI r8, vI r8] hr fun a hr => ?_
  refine ln ?_
  refine wp_ret ?_
  refine end_ret1 (v := vI r8) rfl hr (by kernel_rfl) ?_
  obtain ⟨rfl, rfl, rfl⟩ := ej3 H
  exact ⟨caq11, ccq12, caq13, ccq14, rfl, h.se 4 [3, 0, 1, 2]⟩

/-- plunder/frames.Step -/
def frames_Step_iface (p0 : T_cells_Arena) (p1 : T_frames_Op) : Option (T_frames_Op × T_cells_Arena) :=
  (if p1.head_stands = 0 then some (p1, p0) else (if p1.kind = 0 then ob3 (frames_Op_alloc_iface p1 p0) (fun r9 S10 S11 => (if r9 = 0 then (if S10.head_stands > 0 then some ({ S10 with head_stands := wi (S10.head_stands + 1) }, S11) else some (S10, S11)) else ob1 (frames_head_end S10 1 0) (fun S19 => some (S19, S11)))) else (if p1.kind = 1 then ob3 (frames_Op_fork_iface p1 p0) (fun r22 S23 S24 => (if r22 = 0 then (if S23.head_stands > 0 then some ({ S23 with head_stands := wi (S23.head_stands + 1) }, S24) else some (S23, S24)) else ob1 (frames_head_end S23 1 0) (fun S32 => some (S32, S24)))) else (if p1.kind = 2 then ob3 (frames_Op_finish_iface p1 p0) (fun r35 S36 S37 => (if r35 = 0 then (if S36.head_stands > 0 then some ({ S36 with head_stands := wi (S36.head_stands + 1) }, S37) else some (S36, S37)) else ob1 (frames_head_end S36 1 0) (fun S45 => some (S45, S37)))) else (if p1.kind = 3 then ob3 (frames_Op_sync_iface p1 p0) (fun r48 S49 S50 => (if r48 = 0 then (if S49.head_stands > 0 then some ({ S49 with head_stands := wi (S49.head_stands + 1) }, S50) else some (S49, S50)) else ob1 (frames_head_end S49 1 0) (fun S58 => some (S58, S50)))) else (if p1.kind = 4 then ob3 (frames_Op_start_iface p1 p0) (fun r61 S62 S63 => (if r61 = 0 then (if S62.head_stands > 0 then some ({ S62 with head_stands := wi (S62.head_stands + 1) }, S63) else some (S62, S63)) else ob1 (frames_head_end S62 1 0) (fun S71 => some (S71, S63)))) else ob3 (frames_Op_fetch_iface p1 p0) (fun r73 S74 S75 => (if r73 = 0 then (if S74.head_stands > 0 then some ({ S74 with head_stands := wi (S74.head_stands + 1) }, S75) else some (S74, S75)) else ob1 (frames_head_end S74 1 0) (fun S83 => some (S83, S75))))))))))

theorem frames_Step_iface_ok {z w : World} {L : List HProp} {p0 q0 : T_cells_Arena} {p1 r0 : T_frames_Op} {B0 cc2 cc4 : Nat} {ca1 ca3 : Option Addr} (H : frames_Step_iface p0 p1 = some (r0, q0)) (h : Fit z (sepL (ob103 B0 p0 ca1 cc2 ca3 cc4 :: ro2 ca1 cc2 p0.cell :: ro96 ca3 cc4 p0.log :: L)) w)  :
    Calls Try.prog 28 #[.iface 26 (pA B0 0), ag_T_frames_Op p1] w fun e w => ∃ caq0_1 ccq0_2 caq0_3 ccq0_4, e = .returned (ag_T_frames_Op r0) ∧ Fit z (sepL (ob103 B0 q0 caq0_1 ccq0_2 caq0_3 ccq0_4 :: ro2 caq0_1 ccq0_2 q0.cell :: ro96 caq0_3 ccq0_4 q0.log :: L)) w := by
 unfold frames_Step_iface at H
 refine enter Try.func28 rfl 36 rfl rfl [(0, .iface 26 (pA B0 0)), (1, ag_T_frames_Op p1)] ⟨rfl, rfl, trivial⟩ ?_
 intro j a hr
 refine sr ?_
 refine onew (wn rfl) hr h nb (ca_T_frames_Op p1) 50 fun b5 w a h hr => ?_
 refine onew (wn rfl) hr h nb (#[vI 0, vI 0, vI 0, vI 0, vI 0, vI 0, vI 0, vI 0, vI 0]) 50 fun b6 w a h hr => ?_
 refine ln ?_
 refine wp_seq ?_
 refine sr ?_
 refine oo [6, 7] [pA b5 0, pA b5 3] hr fun a hr => ?_
 refine ld (wn rfl) hr (vI p1.head_stands) ((h.pick 1).cell 3 rfl) fun a hr => ?_
 refine o1 hr (vB (p1.head_stands == 0)) fun a hr => ?_
 refine ln ?_
 refine cD hr H (fun c7 H => ?_) fun c7 H => ?_
 ·
  refine sr ?_
  refine ldm (wn rfl) hr (ag_T_frames_Op p1) (cs := cl_T_frames_Op p1) ((h.pick 1).held 0 rfl) fun a hr => ?_
  refine stm (wn rfl) hr h 0 (cl_T_frames_Op p1) (ob50 b6 p1) fun w h => ?_
  refine ln ?_
  refine wp_ret ?_
  refine then_ret ?_
  refine end_retC (cs := cl_T_frames_Op p1) rfl hr (by kernel_rfl) (by kernel_rfl) (by kernel_rfl) (h.held 0 rfl) ?_
  obtain ⟨rfl, rfl⟩ := ej2 H
  exact ⟨ca1, cc2, ca3, cc4, rfl, h.se 5 [2, 3, 4]⟩
 ·
  refine wp_skip ?_
  refine then_normal ?_
  refine wp_seq ?_
  refine sr ?_
  refine oo [11, 12] [.iface 26 (pA B0 0), vB false] hr fun a hr => ?_
  refine ln ?_
  refine cond_ff hr (b := false) rfl ?_
  refine wp_skip ?_
  refine then_normal ?_
  refine wp_seq ?_
  refine sr ?_
  refine o1 hr (pA b5 6) fun a hr => ?_
  refine ld (wn rfl) hr (vI p1.kind) ((h.pick 1).cell 6 rfl) fun a hr => ?_
  refine op_inl (wn rfl) rfl rfl hr (f := 57) (args := #[vI p1.kind]) (by kernel_rfl) ?_; clear hr a
  refine enter Try.func57 rfl 14 rfl rfl [(0, vI p1.kind)] ⟨by kernel_rfl, trivial⟩ ?_; intro j a hr
  refine sr ?_
  refine o1 hr (.nilFunc) fun a hr => ?_
  refine ln ?_
  refine wp_seq ?_
  refine sr ?_
  refine o1 hr (vI p1.kind) fun a hr => ?_
  refine ln ?_
  refine wp_block ?_
  refine sr ?_
  refine oo [5, 4] [vB (p1.kind == 0), vB (p1.kind == 0)] hr fun a hr => ?_
  refine ln ?_
  refine cD hr H (fun c8 H => ?_) fun c8 H => ?_
  ·
   refine sr ?_
   refine o1 hr (.func (.func 81) #[] #[]) fun a hr => ?_
   refine ln ?_
   refine wp_ret ?_
   refine blk_ret ?_
   refine then_ret ?_
   refine end_ret1 (v := .func (.func 81) #[] #[]) rfl hr (by kernel_rfl) ?_
   refine ⟨_, rfl, ?_⟩; clear hr a; intro a hr
   obtain ⟨r9, S10, S11, e12, H⟩ := bd3 H
   refine o1 hr (.iface 26 (pA B0 0)) fun a hr => ?_
   replace h := h.m4.m4.m4.m4
   have hc := frames_Op_alloc_iface_ok (H := e12) (h := h)
   refine cl (wn rfl) hr hc ?_; clear hc h
   rintro _ w ⟨caq13, ccq14, caq15, ccq16, rfl, h⟩; refine ⟨_, rfl, fun a hr => ?_⟩
   refine o1 hr (vI r9) fun a hr => ?_
   refine ln ?_
   refine sr ?_
   refine oo [21, 22] [vI r9, vB (r9 != 0)] hr fun a hr => ?_
   refine ln ?_
   refine cN hr H (fun c17 H => ?_) fun c17 H => ?_
   ·
    refine sr ?_
    refine oo [25, 26] [pA b5 0, pA b5 3] hr fun a hr => ?_
    refine ld (wn rfl) hr (vI S10.head_stands) (h.cell 3 rfl) fun a hr => ?_
    refine o1 hr (vB (decide (S10.head_stands > 0))) fun a hr => ?_
    refine ln ?_
    refine cD hr H (fun c18 H => ?_) fun c18 H => ?_
    ·
     refine wp_region_lit ?_
     refine oo [29, 30] [pA b5 0, pA b5 3] hr fun a hr => ?_
     refine ld (wn rfl) hr (vI S10.head_stands) (h.cell 3 rfl) fun a hr => ?_
     refine oo [32, 33, 34] [vI (wi (S10.head_stands + 1)), pA b5 0, pA b5 3] hr fun a hr => ?_
     refine st1 (wn rfl) hr h 3 (vI (wi (S10.head_stands + 1))) (pts b5 (.cells #[vI S10.head_t_Base, vI S10.head_t_Frames, vI S10.head_frame, vI (wi (S10.head_stands + 1)), vI S10.head_code, vI S10.head_v, vI S10.kind, vI S10.slot, vI S10.give] 50)) fun w h => ?_
     refine ln ?_
     refine sr ?_
     refine ldm (wn rfl) hr (.agg #[vI S10.head_t_Base, vI S10.head_t_Frames, vI S10.head_frame, vI (wi (S10.head_stands + 1)), vI S10.head_code, vI S10.head_v, vI S10.kind, vI S10.slot, vI S10.give]) (cs := [vI S10.head_t_Base, vI S10.head_t_Frames, vI S10.head_frame, vI (wi (S10.head_stands + 1)), vI S10.head_code, vI S10.head_v, vI S10.kind, vI S10.slot, vI S10.give]) (h.held 0 rfl) fun a hr => ?_
     replace h := h.m4
     refine stm (wn rfl) hr h 0 ([vI S10.head_t_Base, vI S10.head_t_Frames, vI S10.head_frame, vI (wi (S10.head_stands + 1)), vI S10.head_code, vI S10.head_v, vI S10.kind, vI S10.slot, vI S10.give]) (pts b6 (.cells #[vI S10.head_t_Base, vI S10.head_t_Frames, vI S10.head_frame, vI (wi (S10.head_stands + 1)), vI S10.head_code, vI S10.head_v, vI S10.kind, vI S10.slot, vI S10.give] 50)) fun w h => ?_
     refine ln ?_
     refine wp_ret ?_
     refine end_retC (cs := [vI S10.head_t_Base, vI S10.head_t_Frames, vI S10.head_frame, vI (wi (S10.head_stands + 1)), vI S10.head_code, vI S10.head_v, vI S10.kind, vI S10.slot, vI S10.give]) rfl hr (by kernel_rfl) (by kernel_rfl) (by kernel_rfl) (h.held 0 rfl) ?_
     obtain ⟨rfl, rfl⟩ := ej2 H
     exact ⟨caq13, ccq14, caq15, ccq16, rfl, h.se 5 [2, 3, 4]⟩
    ·
     refine wp_skip ?_
     refine then_normal ?_
     refine sr ?_
     refine ldm (wn rfl) hr (ag_T_frames_Op S10) (cs := cl_T_frames_Op S10) (h.held 0 rfl) fun a hr => ?_
     replace h := h.m4
     refine stm (wn rfl) hr h 0 (cl_T_frames_Op S10) (ob50 b6 S10) fun w h => ?_
     refine ln ?_
     refine wp_ret ?_
     refine end_retC (cs := cl_T_frames_Op S10) rfl hr (by kernel_rfl) (by kernel_rfl) (by kernel_rfl) (h.held 0 rfl) ?_
     obtain ⟨rfl, rfl⟩ := ej2 H
     exact ⟨caq13, ccq14, caq15, ccq16, rfl, h.se 5 [2, 3, 4]⟩
   ·
    refine wp_region_lit ?_
    obtain ⟨S19, e20, H⟩ := bd1 H
    refine o1 hr (pA b5 0) fun a hr => ?_
    have hc := frames_head_end_ok (H := e20) (h := h)
    refine cl (wn rfl) hr hc ?_; clear hc h
    rintro _ w ⟨rfl, h⟩; refine ⟨_, rfl, fun a hr => ?_⟩
    refine ln ?_
    refine sr ?_
    refine ldm (wn rfl) hr (ag_T_frames_Op S19) (cs := cl_T_frames_Op S19) (h.held 0 rfl) fun a hr => ?_
    replace h := h.m4
    refine stm (wn rfl) hr h 0 (cl_T_frames_Op S19) (ob50 b6 S19) fun w h => ?_
    refine ln ?_
    refine wp_ret ?_
    refine end_retC (cs := cl_T_frames_Op S19) rfl hr (by kernel_rfl) (by kernel_rfl) (by kernel_rfl) (h.held 0 rfl) ?_
    obtain ⟨rfl, rfl⟩ := ej2 H
    exact ⟨caq13, ccq14, caq15, ccq16, rfl, h.se 5 [2, 3, 4]⟩
  ·
   refine sr ?_
   refine oo [7, 6] [vB (p1.kind == 1), vB (p1.kind == 1)] hr fun a hr => ?_
   refine ln ?_
   refine cD hr H (fun c21 H => ?_) fun c21 H => ?_
   ·
    refine sr ?_
    refine o1 hr (.func (.func 82) #[] #[]) fun a hr => ?_
    refine ln ?_
    refine wp_ret ?_
    refine blk_ret ?_
    refine then_ret ?_
    refine end_ret1 (v := .func (.func 82) #[] #[]) rfl hr (by kernel_rfl) ?_
    refine ⟨_, rfl, ?_⟩; clear hr a; intro a hr
    obtain ⟨r22, S23, S24, e25, H⟩ := bd3 H
    refine o1 hr (.iface 26 (pA B0 0)) fun a hr => ?_
    replace h := h.m4.m4.m4.m4
    have hc := frames_Op_fork_iface_ok (H := e25) (h := h)
    refine cl (wn rfl) hr hc ?_; clear hc h
    rintro _ w ⟨caq26, ccq27, caq28, ccq29, rfl, h⟩; refine ⟨_, rfl, fun a hr => ?_⟩
    refine o1 hr (vI r22) fun a hr => ?_
    refine ln ?_
    refine sr ?_
    refine oo [21, 22] [vI r22, vB (r22 != 0)] hr fun a hr => ?_
    refine ln ?_
    refine cN hr H (fun c30 H => ?_) fun c30 H => ?_
    ·
     refine sr ?_
     refine oo [25, 26] [pA b5 0, pA b5 3] hr fun a hr => ?_
     refine ld (wn rfl) hr (vI S23.head_stands) (h.cell 3 rfl) fun a hr => ?_
     refine o1 hr (vB (decide (S23.head_stands > 0))) fun a hr => ?_
     refine ln ?_
     refine cD hr H (fun c31 H => ?_) fun c31 H => ?_
     ·
      refine wp_region_lit ?_
      refine oo [29, 30] [pA b5 0, pA b5 3] hr fun a hr => ?_
      refine ld (wn rfl) hr (vI S23.head_stands) (h.cell 3 rfl) fun a hr => ?_
      refine oo [32, 33, 34] [vI (wi (S23.head_stands + 1)), pA b5 0, pA b5 3] hr fun a hr => ?_
      refine st1 (wn rfl) hr h 3 (vI (wi (S23.head_stands + 1))) (pts b5 (.cells #[vI S23.head_t_Base, vI S23.head_t_Frames, vI S23.head_frame, vI (wi (S23.head_stands + 1)), vI S23.head_code, vI S23.head_v, vI S23.kind, vI S23.slot, vI S23.give] 50)) fun w h => ?_
      refine ln ?_
      refine sr ?_
      refine ldm (wn rfl) hr (.agg #[vI S23.head_t_Base, vI S23.head_t_Frames, vI S23.head_frame, vI (wi (S23.head_stands + 1)), vI S23.head_code, vI S23.head_v, vI S23.kind, vI S23.slot, vI S23.give]) (cs := [vI S23.head_t_Base, vI S23.head_t_Frames, vI S23.head_frame, vI (wi (S23.head_stands + 1)), vI S23.head_code, vI S23.head_v, vI S23.kind, vI S23.slot, vI S23.give]) (h.held 0 rfl) fun a hr => ?_
      replace h := h.m4
      refine stm (wn rfl) hr h 0 ([vI S23.head_t_Base, vI S23.head_t_Frames, vI S23.head_frame, vI (wi (S23.head_stands + 1)), vI S23.head_code, vI S23.head_v, vI S23.kind, vI S23.slot, vI S23.give]) (pts b6 (.cells #[vI S23.head_t_Base, vI S23.head_t_Frames, vI S23.head_frame, vI (wi (S23.head_stands + 1)), vI S23.head_code, vI S23.head_v, vI S23.kind, vI S23.slot, vI S23.give] 50)) fun w h => ?_
      refine ln ?_
      refine wp_ret ?_
      refine end_retC (cs := [vI S23.head_t_Base, vI S23.head_t_Frames, vI S23.head_frame, vI (wi (S23.head_stands + 1)), vI S23.head_code, vI S23.head_v, vI S23.kind, vI S23.slot, vI S23.give]) rfl hr (by kernel_rfl) (by kernel_rfl) (by kernel_rfl) (h.held 0 rfl) ?_
      obtain ⟨rfl, rfl⟩ := ej2 H
      exact ⟨caq26, ccq27, caq28, ccq29, rfl, h.se 5 [2, 3, 4]⟩
     ·
      refine wp_skip ?_
      refine then_normal ?_
      refine sr ?_
      refine ldm (wn rfl) hr (ag_T_frames_Op S23) (cs := cl_T_frames_Op S23) (h.held 0 rfl) fun a hr => ?_
      replace h := h.m4
      refine stm (wn rfl) hr h 0 (cl_T_frames_Op S23) (ob50 b6 S23) fun w h => ?_
      refine ln ?_
      refine wp_ret ?_
      refine end_retC (cs := cl_T_frames_Op S23) rfl hr (by kernel_rfl) (by kernel_rfl) (by kernel_rfl) (h.held 0 rfl) ?_
      obtain ⟨rfl, rfl⟩ := ej2 H
      exact ⟨caq26, ccq27, caq28, ccq29, rfl, h.se 5 [2, 3, 4]⟩
    ·
     refine wp_region_lit ?_
     obtain ⟨S32, e33, H⟩ := bd1 H
     refine o1 hr (pA b5 0) fun a hr => ?_
     have hc := frames_head_end_ok (H := e33) (h := h)
     refine cl (wn rfl) hr hc ?_; clear hc h
     rintro _ w ⟨rfl, h⟩; refine ⟨_, rfl, fun a hr => ?_⟩
     refine ln ?_
     refine sr ?_
     refine ldm (wn rfl) hr (ag_T_frames_Op S32) (cs := cl_T_frames_Op S32) (h.held 0 rfl) fun a hr => ?_
     replace h := h.m4
     refine stm (wn rfl) hr h 0 (cl_T_frames_Op S32) (ob50 b6 S32) fun w h => ?_
     refine ln ?_
     refine wp_ret ?_
     refine end_retC (cs := cl_T_frames_Op S32) rfl hr (by kernel_rfl) (by kernel_rfl) (by kernel_rfl) (h.held 0 rfl) ?_
     obtain ⟨rfl, rfl⟩ := ej2 H
     exact ⟨caq26, ccq27, caq28, ccq29, rfl, h.se 5 [2, 3, 4]⟩
   ·
    refine sr ?_
    refine oo [9, 8] [vB (p1.kind == 2), vB (p1.kind == 2)] hr fun a hr => ?_
    refine ln ?_
    refine cD hr H (fun c34 H => ?_) fun c34 H => ?_
    ·
     refine sr ?_
     refine o1 hr (.func (.func 83) #[] #[]) fun a hr => ?_
     refine ln ?_
     refine wp_ret ?_
     refine blk_ret ?_
     refine then_ret ?_
     refine end_ret1 (v := .func (.func 83) #[] #[]) rfl hr (by kernel_rfl) ?_
     refine ⟨_, rfl, ?_⟩; clear hr a; intro a hr
     obtain ⟨r35, S36, S37, e38, H⟩ := bd3 H
     refine o1 hr (.iface 26 (pA B0 0)) fun a hr => ?_
     replace h := h.m4.m4.m4.m4
     have hc := frames_Op_finish_iface_ok (H := e38) (h := h)
     refine cl (wn rfl) hr hc ?_; clear hc h
     rintro _ w ⟨caq39, ccq40, caq41, ccq42, rfl, h⟩; refine ⟨_, rfl, fun a hr => ?_⟩
     refine o1 hr (vI r35) fun a hr => ?_
     refine ln ?_
     refine sr ?_
     refine oo [21, 22] [vI r35, vB (r35 != 0)] hr fun a hr => ?_
     refine ln ?_
     refine cN hr H (fun c43 H => ?_) fun c43 H => ?_
     ·
      refine sr ?_
      refine oo [25, 26] [pA b5 0, pA b5 3] hr fun a hr => ?_
      refine ld (wn rfl) hr (vI S36.head_stands) (h.cell 3 rfl) fun a hr => ?_
      refine o1 hr (vB (decide (S36.head_stands > 0))) fun a hr => ?_
      refine ln ?_
      refine cD hr H (fun c44 H => ?_) fun c44 H => ?_
      ·
       refine wp_region_lit ?_
       refine oo [29, 30] [pA b5 0, pA b5 3] hr fun a hr => ?_
       refine ld (wn rfl) hr (vI S36.head_stands) (h.cell 3 rfl) fun a hr => ?_
       refine oo [32, 33, 34] [vI (wi (S36.head_stands + 1)), pA b5 0, pA b5 3] hr fun a hr => ?_
       refine st1 (wn rfl) hr h 3 (vI (wi (S36.head_stands + 1))) (pts b5 (.cells #[vI S36.head_t_Base, vI S36.head_t_Frames, vI S36.head_frame, vI (wi (S36.head_stands + 1)), vI S36.head_code, vI S36.head_v, vI S36.kind, vI S36.slot, vI S36.give] 50)) fun w h => ?_
       refine ln ?_
       refine sr ?_
       refine ldm (wn rfl) hr (.agg #[vI S36.head_t_Base, vI S36.head_t_Frames, vI S36.head_frame, vI (wi (S36.head_stands + 1)), vI S36.head_code, vI S36.head_v, vI S36.kind, vI S36.slot, vI S36.give]) (cs := [vI S36.head_t_Base, vI S36.head_t_Frames, vI S36.head_frame, vI (wi (S36.head_stands + 1)), vI S36.head_code, vI S36.head_v, vI S36.kind, vI S36.slot, vI S36.give]) (h.held 0 rfl) fun a hr => ?_
       replace h := h.m4
       refine stm (wn rfl) hr h 0 ([vI S36.head_t_Base, vI S36.head_t_Frames, vI S36.head_frame, vI (wi (S36.head_stands + 1)), vI S36.head_code, vI S36.head_v, vI S36.kind, vI S36.slot, vI S36.give]) (pts b6 (.cells #[vI S36.head_t_Base, vI S36.head_t_Frames, vI S36.head_frame, vI (wi (S36.head_stands + 1)), vI S36.head_code, vI S36.head_v, vI S36.kind, vI S36.slot, vI S36.give] 50)) fun w h => ?_
       refine ln ?_
       refine wp_ret ?_
       refine end_retC (cs := [vI S36.head_t_Base, vI S36.head_t_Frames, vI S36.head_frame, vI (wi (S36.head_stands + 1)), vI S36.head_code, vI S36.head_v, vI S36.kind, vI S36.slot, vI S36.give]) rfl hr (by kernel_rfl) (by kernel_rfl) (by kernel_rfl) (h.held 0 rfl) ?_
       obtain ⟨rfl, rfl⟩ := ej2 H
       exact ⟨caq39, ccq40, caq41, ccq42, rfl, h.se 5 [2, 3, 4]⟩
      ·
       refine wp_skip ?_
       refine then_normal ?_
       refine sr ?_
       refine ldm (wn rfl) hr (ag_T_frames_Op S36) (cs := cl_T_frames_Op S36) (h.held 0 rfl) fun a hr => ?_
       replace h := h.m4
       refine stm (wn rfl) hr h 0 (cl_T_frames_Op S36) (ob50 b6 S36) fun w h => ?_
       refine ln ?_
       refine wp_ret ?_
       refine end_retC (cs := cl_T_frames_Op S36) rfl hr (by kernel_rfl) (by kernel_rfl) (by kernel_rfl) (h.held 0 rfl) ?_
       obtain ⟨rfl, rfl⟩ := ej2 H
       exact ⟨caq39, ccq40, caq41, ccq42, rfl, h.se 5 [2, 3, 4]⟩
     ·
      refine wp_region_lit ?_
      obtain ⟨S45, e46, H⟩ := bd1 H
      refine o1 hr (pA b5 0) fun a hr => ?_
      have hc := frames_head_end_ok (H := e46) (h := h)
      refine cl (wn rfl) hr hc ?_; clear hc h
      rintro _ w ⟨rfl, h⟩; refine ⟨_, rfl, fun a hr => ?_⟩
      refine ln ?_
      refine sr ?_
      refine ldm (wn rfl) hr (ag_T_frames_Op S45) (cs := cl_T_frames_Op S45) (h.held 0 rfl) fun a hr => ?_
      replace h := h.m4
      refine stm (wn rfl) hr h 0 (cl_T_frames_Op S45) (ob50 b6 S45) fun w h => ?_
      refine ln ?_
      refine wp_ret ?_
      refine end_retC (cs := cl_T_frames_Op S45) rfl hr (by kernel_rfl) (by kernel_rfl) (by kernel_rfl) (h.held 0 rfl) ?_
      obtain ⟨rfl, rfl⟩ := ej2 H
      exact ⟨caq39, ccq40, caq41, ccq42, rfl, h.se 5 [2, 3, 4]⟩
    ·
     refine sr ?_
     refine oo [11, 10] [vB (p1.kind == 3), vB (p1.kind == 3)] hr fun a hr => ?_
     refine ln ?_
     refine cD hr H (fun c47 H => ?_) fun c47 H => ?_
     ·
      refine sr ?_
      refine o1 hr (.func (.func 84) #[] #[]) fun a hr => ?_
      refine ln ?_
      refine wp_ret ?_
      refine blk_ret ?_
      refine then_ret ?_
      refine end_ret1 (v := .func (.func 84) #[] #[]) rfl hr (by kernel_rfl) ?_
      refine ⟨_, rfl, ?_⟩; clear hr a; intro a hr
      obtain ⟨r48, S49, S50, e51, H⟩ := bd3 H
      refine o1 hr (.iface 26 (pA B0 0)) fun a hr => ?_
      replace h := h.m4.m4.m4.m4
      have hc := frames_Op_sync_iface_ok (H := e51) (h := h)
      refine cl (wn rfl) hr hc ?_; clear hc h
      rintro _ w ⟨caq52, ccq53, caq54, ccq55, rfl, h⟩; refine ⟨_, rfl, fun a hr => ?_⟩
      refine o1 hr (vI r48) fun a hr => ?_
      refine ln ?_
      refine sr ?_
      refine oo [21, 22] [vI r48, vB (r48 != 0)] hr fun a hr => ?_
      refine ln ?_
      refine cN hr H (fun c56 H => ?_) fun c56 H => ?_
      ·
       refine sr ?_
       refine oo [25, 26] [pA b5 0, pA b5 3] hr fun a hr => ?_
       refine ld (wn rfl) hr (vI S49.head_stands) (h.cell 3 rfl) fun a hr => ?_
       refine o1 hr (vB (decide (S49.head_stands > 0))) fun a hr => ?_
       refine ln ?_
       refine cD hr H (fun c57 H => ?_) fun c57 H => ?_
       ·
        refine wp_region_lit ?_
        refine oo [29, 30] [pA b5 0, pA b5 3] hr fun a hr => ?_
        refine ld (wn rfl) hr (vI S49.head_stands) (h.cell 3 rfl) fun a hr => ?_
        refine oo [32, 33, 34] [vI (wi (S49.head_stands + 1)), pA b5 0, pA b5 3] hr fun a hr => ?_
        refine st1 (wn rfl) hr h 3 (vI (wi (S49.head_stands + 1))) (pts b5 (.cells #[vI S49.head_t_Base, vI S49.head_t_Frames, vI S49.head_frame, vI (wi (S49.head_stands + 1)), vI S49.head_code, vI S49.head_v, vI S49.kind, vI S49.slot, vI S49.give] 50)) fun w h => ?_
        refine ln ?_
        refine sr ?_
        refine ldm (wn rfl) hr (.agg #[vI S49.head_t_Base, vI S49.head_t_Frames, vI S49.head_frame, vI (wi (S49.head_stands + 1)), vI S49.head_code, vI S49.head_v, vI S49.kind, vI S49.slot, vI S49.give]) (cs := [vI S49.head_t_Base, vI S49.head_t_Frames, vI S49.head_frame, vI (wi (S49.head_stands + 1)), vI S49.head_code, vI S49.head_v, vI S49.kind, vI S49.slot, vI S49.give]) (h.held 0 rfl) fun a hr => ?_
        replace h := h.m4
        refine stm (wn rfl) hr h 0 ([vI S49.head_t_Base, vI S49.head_t_Frames, vI S49.head_frame, vI (wi (S49.head_stands + 1)), vI S49.head_code, vI S49.head_v, vI S49.kind, vI S49.slot, vI S49.give]) (pts b6 (.cells #[vI S49.head_t_Base, vI S49.head_t_Frames, vI S49.head_frame, vI (wi (S49.head_stands + 1)), vI S49.head_code, vI S49.head_v, vI S49.kind, vI S49.slot, vI S49.give] 50)) fun w h => ?_
        refine ln ?_
        refine wp_ret ?_
        refine end_retC (cs := [vI S49.head_t_Base, vI S49.head_t_Frames, vI S49.head_frame, vI (wi (S49.head_stands + 1)), vI S49.head_code, vI S49.head_v, vI S49.kind, vI S49.slot, vI S49.give]) rfl hr (by kernel_rfl) (by kernel_rfl) (by kernel_rfl) (h.held 0 rfl) ?_
        obtain ⟨rfl, rfl⟩ := ej2 H
        exact ⟨caq52, ccq53, caq54, ccq55, rfl, h.se 5 [2, 3, 4]⟩
       ·
        refine wp_skip ?_
        refine then_normal ?_
        refine sr ?_
        refine ldm (wn rfl) hr (ag_T_frames_Op S49) (cs := cl_T_frames_Op S49) (h.held 0 rfl) fun a hr => ?_
        replace h := h.m4
        refine stm (wn rfl) hr h 0 (cl_T_frames_Op S49) (ob50 b6 S49) fun w h => ?_
        refine ln ?_
        refine wp_ret ?_
        refine end_retC (cs := cl_T_frames_Op S49) rfl hr (by kernel_rfl) (by kernel_rfl) (by kernel_rfl) (h.held 0 rfl) ?_
        obtain ⟨rfl, rfl⟩ := ej2 H
        exact ⟨caq52, ccq53, caq54, ccq55, rfl, h.se 5 [2, 3, 4]⟩
      ·
       refine wp_region_lit ?_
       obtain ⟨S58, e59, H⟩ := bd1 H
       refine o1 hr (pA b5 0) fun a hr => ?_
       have hc := frames_head_end_ok (H := e59) (h := h)
       refine cl (wn rfl) hr hc ?_; clear hc h
       rintro _ w ⟨rfl, h⟩; refine ⟨_, rfl, fun a hr => ?_⟩
       refine ln ?_
       refine sr ?_
       refine ldm (wn rfl) hr (ag_T_frames_Op S58) (cs := cl_T_frames_Op S58) (h.held 0 rfl) fun a hr => ?_
       replace h := h.m4
       refine stm (wn rfl) hr h 0 (cl_T_frames_Op S58) (ob50 b6 S58) fun w h => ?_
       refine ln ?_
       refine wp_ret ?_
       refine end_retC (cs := cl_T_frames_Op S58) rfl hr (by kernel_rfl) (by kernel_rfl) (by kernel_rfl) (h.held 0 rfl) ?_
       obtain ⟨rfl, rfl⟩ := ej2 H
       exact ⟨caq52, ccq53, caq54, ccq55, rfl, h.se 5 [2, 3, 4]⟩
     ·
      refine sr ?_
      refine oo [13, 12] [vB (p1.kind == 4), vB (p1.kind == 4)] hr fun a hr => ?_
      refine ln ?_
      refine cD hr H (fun c60 H => ?_) fun c60 H => ?_
      ·
       refine sr ?_
       refine o1 hr (.func (.func 85) #[] #[]) fun a hr => ?_
       refine ln ?_
       refine wp_ret ?_
       refine blk_ret ?_
       refine then_ret ?_
       refine end_ret1 (v := .func (.func 85) #[] #[]) rfl hr (by kernel_rfl) ?_
       refine ⟨_, rfl, ?_⟩; clear hr a; intro a hr
       obtain ⟨r61, S62, S63, e64, H⟩ := bd3 H
       refine o1 hr (.iface 26 (pA B0 0)) fun a hr => ?_
       replace h := h.m4.m4.m4.m4
       have hc := frames_Op_start_iface_ok (H := e64) (h := h)
       refine cl (wn rfl) hr hc ?_; clear hc h
       rintro _ w ⟨caq65, ccq66, caq67, ccq68, rfl, h⟩; refine ⟨_, rfl, fun a hr => ?_⟩
       refine o1 hr (vI r61) fun a hr => ?_
       refine ln ?_
       refine sr ?_
       refine oo [21, 22] [vI r61, vB (r61 != 0)] hr fun a hr => ?_
       refine ln ?_
       refine cN hr H (fun c69 H => ?_) fun c69 H => ?_
       ·
        refine sr ?_
        refine oo [25, 26] [pA b5 0, pA b5 3] hr fun a hr => ?_
        refine ld (wn rfl) hr (vI S62.head_stands) (h.cell 3 rfl) fun a hr => ?_
        refine o1 hr (vB (decide (S62.head_stands > 0))) fun a hr => ?_
        refine ln ?_
        refine cD hr H (fun c70 H => ?_) fun c70 H => ?_
        ·
         refine wp_region_lit ?_
         refine oo [29, 30] [pA b5 0, pA b5 3] hr fun a hr => ?_
         refine ld (wn rfl) hr (vI S62.head_stands) (h.cell 3 rfl) fun a hr => ?_
         refine oo [32, 33, 34] [vI (wi (S62.head_stands + 1)), pA b5 0, pA b5 3] hr fun a hr => ?_
         refine st1 (wn rfl) hr h 3 (vI (wi (S62.head_stands + 1))) (pts b5 (.cells #[vI S62.head_t_Base, vI S62.head_t_Frames, vI S62.head_frame, vI (wi (S62.head_stands + 1)), vI S62.head_code, vI S62.head_v, vI S62.kind, vI S62.slot, vI S62.give] 50)) fun w h => ?_
         refine ln ?_
         refine sr ?_
         refine ldm (wn rfl) hr (.agg #[vI S62.head_t_Base, vI S62.head_t_Frames, vI S62.head_frame, vI (wi (S62.head_stands + 1)), vI S62.head_code, vI S62.head_v, vI S62.kind, vI S62.slot, vI S62.give]) (cs := [vI S62.head_t_Base, vI S62.head_t_Frames, vI S62.head_frame, vI (wi (S62.head_stands + 1)), vI S62.head_code, vI S62.head_v, vI S62.kind, vI S62.slot, vI S62.give]) (h.held 0 rfl) fun a hr => ?_
         replace h := h.m4
         refine stm (wn rfl) hr h 0 ([vI S62.head_t_Base, vI S62.head_t_Frames, vI S62.head_frame, vI (wi (S62.head_stands + 1)), vI S62.head_code, vI S62.head_v, vI S62.kind, vI S62.slot, vI S62.give]) (pts b6 (.cells #[vI S62.head_t_Base, vI S62.head_t_Frames, vI S62.head_frame, vI (wi (S62.head_stands + 1)), vI S62.head_code, vI S62.head_v, vI S62.kind, vI S62.slot, vI S62.give] 50)) fun w h => ?_
         refine ln ?_
         refine wp_ret ?_
         refine end_retC (cs := [vI S62.head_t_Base, vI S62.head_t_Frames, vI S62.head_frame, vI (wi (S62.head_stands + 1)), vI S62.head_code, vI S62.head_v, vI S62.kind, vI S62.slot, vI S62.give]) rfl hr (by kernel_rfl) (by kernel_rfl) (by kernel_rfl) (h.held 0 rfl) ?_
         obtain ⟨rfl, rfl⟩ := ej2 H
         exact ⟨caq65, ccq66, caq67, ccq68, rfl, h.se 5 [2, 3, 4]⟩
        ·
         refine wp_skip ?_
         refine then_normal ?_
         refine sr ?_
         refine ldm (wn rfl) hr (ag_T_frames_Op S62) (cs := cl_T_frames_Op S62) (h.held 0 rfl) fun a hr => ?_
         replace h := h.m4
         refine stm (wn rfl) hr h 0 (cl_T_frames_Op S62) (ob50 b6 S62) fun w h => ?_
         refine ln ?_
         refine wp_ret ?_
         refine end_retC (cs := cl_T_frames_Op S62) rfl hr (by kernel_rfl) (by kernel_rfl) (by kernel_rfl) (h.held 0 rfl) ?_
         obtain ⟨rfl, rfl⟩ := ej2 H
         exact ⟨caq65, ccq66, caq67, ccq68, rfl, h.se 5 [2, 3, 4]⟩
       ·
        refine wp_region_lit ?_
        obtain ⟨S71, e72, H⟩ := bd1 H
        refine o1 hr (pA b5 0) fun a hr => ?_
        have hc := frames_head_end_ok (H := e72) (h := h)
        refine cl (wn rfl) hr hc ?_; clear hc h
        rintro _ w ⟨rfl, h⟩; refine ⟨_, rfl, fun a hr => ?_⟩
        refine ln ?_
        refine sr ?_
        refine ldm (wn rfl) hr (ag_T_frames_Op S71) (cs := cl_T_frames_Op S71) (h.held 0 rfl) fun a hr => ?_
        replace h := h.m4
        refine stm (wn rfl) hr h 0 (cl_T_frames_Op S71) (ob50 b6 S71) fun w h => ?_
        refine ln ?_
        refine wp_ret ?_
        refine end_retC (cs := cl_T_frames_Op S71) rfl hr (by kernel_rfl) (by kernel_rfl) (by kernel_rfl) (h.held 0 rfl) ?_
        obtain ⟨rfl, rfl⟩ := ej2 H
        exact ⟨caq65, ccq66, caq67, ccq68, rfl, h.se 5 [2, 3, 4]⟩
      ·
       refine wp_skip ?_
       refine blk_normal ?_
       refine then_normal ?_
       refine sr ?_
       refine o1 hr (.func (.func 86) #[] #[]) fun a hr => ?_
       refine ln ?_
       refine wp_ret ?_
       refine end_ret1 (v := .func (.func 86) #[] #[]) rfl hr (by kernel_rfl) ?_
       refine ⟨_, rfl, ?_⟩; clear hr a; intro a hr
       obtain ⟨r73, S74, S75, e76, H⟩ := bd3 H
       refine o1 hr (.iface 26 (pA B0 0)) fun a hr => ?_
       replace h := h.m4.m4.m4.m4
       have hc := frames_Op_fetch_iface_ok (H := e76) (h := h)
       refine cl (wn rfl) hr hc ?_; clear hc h
       rintro _ w ⟨caq77, ccq78, caq79, ccq80, rfl, h⟩; refine ⟨_, rfl, fun a hr => ?_⟩
       refine o1 hr (vI r73) fun a hr => ?_
       refine ln ?_
       refine sr ?_
       refine oo [21, 22] [vI r73, vB (r73 != 0)] hr fun a hr => ?_
       refine ln ?_
       refine cN hr H (fun c81 H => ?_) fun c81 H => ?_
       ·
        refine sr ?_
        refine oo [25, 26] [pA b5 0, pA b5 3] hr fun a hr => ?_
        refine ld (wn rfl) hr (vI S74.head_stands) (h.cell 3 rfl) fun a hr => ?_
        refine o1 hr (vB (decide (S74.head_stands > 0))) fun a hr => ?_
        refine ln ?_
        refine cD hr H (fun c82 H => ?_) fun c82 H => ?_
        ·
         refine wp_region_lit ?_
         refine oo [29, 30] [pA b5 0, pA b5 3] hr fun a hr => ?_
         refine ld (wn rfl) hr (vI S74.head_stands) (h.cell 3 rfl) fun a hr => ?_
         refine oo [32, 33, 34] [vI (wi (S74.head_stands + 1)), pA b5 0, pA b5 3] hr fun a hr => ?_
         refine st1 (wn rfl) hr h 3 (vI (wi (S74.head_stands + 1))) (pts b5 (.cells #[vI S74.head_t_Base, vI S74.head_t_Frames, vI S74.head_frame, vI (wi (S74.head_stands + 1)), vI S74.head_code, vI S74.head_v, vI S74.kind, vI S74.slot, vI S74.give] 50)) fun w h => ?_
         refine ln ?_
         refine sr ?_
         refine ldm (wn rfl) hr (.agg #[vI S74.head_t_Base, vI S74.head_t_Frames, vI S74.head_frame, vI (wi (S74.head_stands + 1)), vI S74.head_code, vI S74.head_v, vI S74.kind, vI S74.slot, vI S74.give]) (cs := [vI S74.head_t_Base, vI S74.head_t_Frames, vI S74.head_frame, vI (wi (S74.head_stands + 1)), vI S74.head_code, vI S74.head_v, vI S74.kind, vI S74.slot, vI S74.give]) (h.held 0 rfl) fun a hr => ?_
         replace h := h.m4
         refine stm (wn rfl) hr h 0 ([vI S74.head_t_Base, vI S74.head_t_Frames, vI S74.head_frame, vI (wi (S74.head_stands + 1)), vI S74.head_code, vI S74.head_v, vI S74.kind, vI S74.slot, vI S74.give]) (pts b6 (.cells #[vI S74.head_t_Base, vI S74.head_t_Frames, vI S74.head_frame, vI (wi (S74.head_stands + 1)), vI S74.head_code, vI S74.head_v, vI S74.kind, vI S74.slot, vI S74.give] 50)) fun w h => ?_
         refine ln ?_
         refine wp_ret ?_
         refine end_retC (cs := [vI S74.head_t_Base, vI S74.head_t_Frames, vI S74.head_frame, vI (wi (S74.head_stands + 1)), vI S74.head_code, vI S74.head_v, vI S74.kind, vI S74.slot, vI S74.give]) rfl hr (by kernel_rfl) (by kernel_rfl) (by kernel_rfl) (h.held 0 rfl) ?_
         obtain ⟨rfl, rfl⟩ := ej2 H
         exact ⟨caq77, ccq78, caq79, ccq80, rfl, h.se 5 [2, 3, 4]⟩
        ·
         refine wp_skip ?_
         refine then_normal ?_
         refine sr ?_
         refine ldm (wn rfl) hr (ag_T_frames_Op S74) (cs := cl_T_frames_Op S74) (h.held 0 rfl) fun a hr => ?_
         replace h := h.m4
         refine stm (wn rfl) hr h 0 (cl_T_frames_Op S74) (ob50 b6 S74) fun w h => ?_
         refine ln ?_
         refine wp_ret ?_
         refine end_retC (cs := cl_T_frames_Op S74) rfl hr (by kernel_rfl) (by kernel_rfl) (by kernel_rfl) (h.held 0 rfl) ?_
         obtain ⟨rfl, rfl⟩ := ej2 H
         exact ⟨caq77, ccq78, caq79, ccq80, rfl, h.se 5 [2, 3, 4]⟩
       ·
        refine wp_region_lit ?_
        obtain ⟨S83, e84, H⟩ := bd1 H
        refine o1 hr (pA b5 0) fun a hr => ?_
        have hc := frames_head_end_ok (H := e84) (h := h)
        refine cl (wn rfl) hr hc ?_; clear hc h
        rintro _ w ⟨rfl, h⟩; refine ⟨_, rfl, fun a hr => ?_⟩
        refine ln ?_
        refine sr ?_
        refine ldm (wn rfl) hr (ag_T_frames_Op S83) (cs := cl_T_frames_Op S83) (h.held 0 rfl) fun a hr => ?_
        replace h := h.m4
        refine stm (wn rfl) hr h 0 (cl_T_frames_Op S83) (ob50 b6 S83) fun w h => ?_
        refine ln ?_
        refine wp_ret ?_
        refine end_retC (cs := cl_T_frames_Op S83) rfl hr (by kernel_rfl) (by kernel_rfl) (by kernel_rfl) (h.held 0 rfl) ?_
        obtain ⟨rfl, rfl⟩ := ej2 H
        exact ⟨caq77, ccq78, caq79, ccq80, rfl, h.se 5 [2, 3, 4]⟩

/-- plunder/frames.Answer -/
def frames_Answer (p0 : T_frames_Op) : Option (Int × Int) :=
  (if p0 = (⟨0, 0, 0, 0, 0, 0, 0, 0, 0⟩ : T_frames_Op) then some (1, 0) else (if p0.head_stands > 0 then some (0, 0) else some (p0.head_code, p0.head_v)))

theorem frames_Answer_ok {z w : World} {L : List HProp} {p0 : T_frames_Op} {r0 r1 : Int} (H : frames_Answer p0 = some (r0, r1)) (h : Fit z (sepL (L)) w)  :
    Calls Try.prog 26 #[ag_T_frames_Op p0] w fun e w => e = .returned (.tuple #[vI r0, vI r1]) ∧ Fit z (sepL (L)) w := by
 unfold frames_Answer at H
 refine enter Try.func26 rfl 17 rfl rfl [(0, ag_T_frames_Op p0)] ⟨rfl, trivial⟩ ?_
 intro j a hr
 refine sr ?_
 refine onew (wn rfl) hr h nb (ca_T_frames_Op p0) 50 fun b1 w a h hr => ?_
 refine oo [2, 3] [vI 0, vI 0] hr fun a hr => ?_
 refine ln ?_
 refine wp_seq ?_
 refine sr ?_
 refine ldm (wn rfl) hr (ag_T_frames_Op p0) (cs := cl_T_frames_Op p0) (h.held 0 rfl) fun a hr => ?_
 refine o1 hr (.agg #[vI 0, vI 0, vI 0, vI 0, vI 0, vI 0, vI 0, vI 0, vI 0]) fun a hr => ?_
 refine opv (wn rfl) hr (vB (decide (p0 = (⟨0, 0, 0, 0, 0, 0, 0, 0, 0⟩ : T_frames_Op)))) (rb (reqd rfl (by kernel_rfl) (by kernel_rfl) (by kernel_rfl) (by kernel_rfl) (by kernel_rfl) (by kernel_rfl)) (eq_T_frames_Op p0 (⟨0, 0, 0, 0, 0, 0, 0, 0, 0⟩ : T_frames_Op))) fun a hr => ?_
 refine ln ?_
 refine cD hr H (fun c2 H => ?_) fun c2 H => ?_
 ·
  refine sr ?_
  refine oo [2, 3] [vI 1, vI 0] hr fun a hr => ?_
  refine ln ?_
  refine wp_ret ?_
  refine then_ret ?_
  refine end_ret2 (v := vI 1) (v' := vI 0) rfl hr (by kernel_rfl) (by kernel_rfl) ?_
  obtain ⟨rfl, rfl⟩ := ej2 H
  exact ⟨rfl, h.se 1 []⟩
 ·
  refine wp_skip ?_
  refine then_normal ?_
  refine wp_seq ?_
  refine sr ?_
  refine oo [7, 8] [pA b1 0, pA b1 3] hr fun a hr => ?_
  refine ld (wn rfl) hr (vI p0.head_stands) (h.cell 3 rfl) fun a hr => ?_
  refine o1 hr (vB (decide (p0.head_stands > 0))) fun a hr => ?_
  refine ln ?_
  refine cD hr H (fun c3 H => ?_) fun c3 H => ?_
  ·
   refine sr ?_
   refine oo [2, 3] [vI 0, vI 0] hr fun a hr => ?_
   refine ln ?_
   refine wp_ret ?_
   refine then_ret ?_
   refine end_ret2 (v := vI 0) (v' := vI 0) rfl hr (by kernel_rfl) (by kernel_rfl) ?_
   obtain ⟨rfl, rfl⟩ := ej2 H
   exact ⟨rfl, h.se 1 []⟩
  ·
   refine wp_skip ?_
   refine then_normal ?_
   refine wp_seq ?_
   refine regL [(b1, 4, [vI p0.head_code]), (b1, 5, [vI p0.head_v])] [0, 1, 3, 4] 8 h (fun h => ⟨⟨h.cell 4 rfl, trivial⟩, ⟨h.cell 5 rfl, trivial⟩, trivial⟩) fun w h hd => ?_
   refine evs' hd 4 [(0, 11, pA b1 0), (1, 12, pA b1 4), (3, 14, pA b1 0), (4, 15, pA b1 5)] hr fun a hr => ?_
   refine elx hd 0 3 2 hr (wn rfl) rfl rfl fun a hr => ?_
   refine evs' hd 2 [(6, 2, vI p0.head_code)] hr fun a hr => ?_
   refine elx hd 1 1 5 hr (wn rfl) rfl rfl fun a hr => ?_
   refine evs' hd 0 [(7, 3, vI p0.head_v)] hr fun a hr => ?_
   refine een ?_
   refine then_normal ?_
   refine wp_ret ?_
   refine end_ret2 (v := vI p0.head_code) (v' := vI p0.head_v) rfl hr (by kernel_rfl) (by kernel_rfl) ?_
   obtain ⟨rfl, rfl⟩ := ej2 H
   exact ⟨rfl, h.se 1 []⟩

/-- (*plunder/frames.join).fork -/
def frames_join_fork (p0 : T_frames_join) (p0_arena : T_cells_Arena) (p0_rounds : List Int) (p1 : T_frames_actor) : Option (T_frames_actor) :=
  if inr_ p0.round p0_rounds.length then (if p1.at_ ≥ (at_ p0_rounds p0.round.toNat) then some ({ p1 with about := 4 }) else some ({ p1 with about := 2 })) else none

theorem frames_join_fork_ok {z w : World} {L : List HProp} {p0 : T_frames_join} {p0_arena : T_cells_Arena} {p0_rounds : List Int} {p1 q1 : T_frames_actor} {B0 B0_arena cc2 cc4 vc0_rounds ix0_live cc6 cc8 cc10 cc12 cc14 B1 : Nat} {ca1 ca3 va0_rounds ca5 ca7 ca9 ca11 ca13 : Option Addr} {cs0_live : List Value} (H : frames_join_fork p0 p0_arena p0_rounds p1 = some q1) (h : Fit z (sepL (ob133 B0 p0 (pA B0_arena 0) (.slice va0_rounds p0_rounds.length vc0_rounds) ca5 cc6 ca7 cc8 ca9 cc10 ca11 cc12 ca13 cc14 :: rowH 135 1 own_ptr135 (.slice ca5 p0.live.length cc6) p0.live ix0_live cs0_live :: ro3 ca7 cc8 p0.run_Holders :: rn31 ca9 cc10 p0.run_Reads :: ro2 ca11 cc12 p0.run_Marks :: ro96 ca13 cc14 p0.run_Log :: ob103 B0_arena p0_arena ca1 cc2 ca3 cc4 :: ro2 ca1 cc2 p0_arena.cell :: ro96 ca3 cc4 p0_arena.log :: ob137 B1 p1 :: L)) w) (hv0_rounds : RdRow L 1 encZ_i64 va0_rounds p0_rounds) :
    Calls Try.prog 104 #[pA B0 0, pA B1 0] w fun e w => e = .returned (.tuple #[]) ∧ Fit z (sepL (ob133 B0 p0 (pA B0_arena 0) (.slice va0_rounds p0_rounds.length vc0_rounds) ca5 cc6 ca7 cc8 ca9 cc10 ca11 cc12 ca13 cc14 :: rowH 135 1 own_ptr135 (.slice ca5 p0.live.length cc6) p0.live ix0_live cs0_live :: ro3 ca7 cc8 p0.run_Holders :: rn31 ca9 cc10 p0.run_Reads :: ro2 ca11 cc12 p0.run_Marks :: ro96 ca13 cc14 p0.run_Log :: ob103 B0_arena p0_arena ca1 cc2 ca3 cc4 :: ro2 ca1 cc2 p0_arena.cell :: ro96 ca3 cc4 p0_arena.log :: ob137 B1 q1 :: L)) w := by
 unfold frames_join_fork at H
 refine enter Try.func104 rfl 25 rfl rfl [(0, pA B0 0), (1, pA B1 0)] ⟨rfl, rfl, trivial⟩ ?_
 intro j a hr
 refine sr ?_
 refine oo [4, 5, 6] [pA B1 0, pA B1 0, pA B1 1] hr fun a hr => ?_
 replace h := h.m9
 refine st1 (wn rfl) hr h 1 (vI 2) (pts B1 (.cells #[vI p1.number, vI 2, vI p1.op_head_t_Base, vI p1.op_head_t_Frames, vI p1.op_head_frame, vI p1.op_head_stands, vI p1.op_head_code, vI p1.op_head_v, vI p1.op_kind, vI p1.op_slot, vI p1.op_give, vB p1.inOp, vI p1.frame, vI p1.slot, vI p1.value, vI p1.at_, vB p1.child] 137)) fun w h => ?_
 refine ln ?_
 refine wp_seq ?_
 obtain ⟨c15, H⟩ := gd H
 refine regL [(B1, 15, [vI p1.at_]), (B0, 3, [.slice va0_rounds p0_rounds.length vc0_rounds]), (B0, 4, [vI p0.round]), (blk va0_rounds, offs va0_rounds + p0.round.toNat * 1, [vI (at_ p0_rounds p0.round.toNat)])] [1, 2, 5, 6, 9, 10, 12] 15 h (fun h => ⟨⟨h.cell 15 rfl, trivial⟩, ⟨(h.pick 1).cell 3 rfl, trivial⟩, ⟨(h.pick 1).cell 4 rfl, trivial⟩, ⟨hv0_rounds.cell c15 (h.dn 10) 0 rfl, trivial⟩, trivial⟩) fun w h hd => ?_
 refine evs' hd 6 [(0, 7, pA B1 0), (1, 8, pA B1 0), (2, 9, pA B1 15), (4, 11, pA B0 0), (5, 12, pA B0 0), (6, 13, pA B0 3), (8, 15, pA B0 0), (9, 16, pA B0 0), (10, 17, pA B0 4)] hr fun a hr => ?_
 refine elx hd 0 5 3 hr (wn rfl) rfl rfl fun a hr => ?_
 refine elx hd 1 4 7 hr (wn rfl) rfl rfl fun a hr => ?_
 refine elx hd 2 3 11 hr (wn rfl) rfl rfl fun a hr => ?_
 refine eon hd 2 12 rfl (wn rfl) hr (pA (blk va0_rounds) (offs va0_rounds + p0.round.toNat * 1)) (hrun := fun w => ri_rd (k := .i64) (E := 3) (cc := vc0_rounds) rfl (by kernel_rfl) (by kernel_rfl) rfl (by kernel_rfl) (by kernel_rfl) hv0_rounds c15) fun a hr => ?_
 refine elx hd 3 1 13 hr (wn rfl) rfl rfl fun a hr => ?_
 refine evs' hd 0 [(14, 21, vB (decide (p1.at_ ≥ (at_ p0_rounds p0.round.toNat))))] hr fun a hr => ?_
 refine een ?_
 refine then_normal ?_
 refine cD hr H (fun c16 H => ?_) fun c16 H => ?_
 ·
  refine wp_region_lit ?_
  refine oo [22, 23, 24] [pA B1 0, pA B1 0, pA B1 1] hr fun a hr => ?_
  refine st1 (wn rfl) hr h 1 (vI 4) (pts B1 (.cells #[vI p1.number, vI 4, vI p1.op_head_t_Base, vI p1.op_head_t_Frames, vI p1.op_head_frame, vI p1.op_head_stands, vI p1.op_head_code, vI p1.op_head_v, vI p1.op_kind, vI p1.op_slot, vI p1.op_give, vB p1.inOp, vI p1.frame, vI p1.slot, vI p1.value, vI p1.at_, vB p1.child] 137)) fun w h => ?_
  refine wpList_nil ?_
  refine end_norm0 rfl hr ?_
  replace H := ej1 H; subst H
  exact ⟨rfl, h.se 10 [1, 2, 3, 4, 5, 6, 7, 8, 9, 0]⟩
 ·
  refine wp_skip ?_
  refine end_norm0 rfl hr ?_
  replace H := ej1 H; subst H
  exact ⟨rfl, h.se 10 [1, 2, 3, 4, 5, 6, 7, 8, 9, 0]⟩

/-- (*plunder/frames.join).enter -/
def frames_join_enter (p0 : T_frames_join) (p0_arena : T_cells_Arena) (p0_rounds : List Int) (p1 : T_frames_actor) : Option (T_frames_join × T_frames_actor) :=
  (if p0.round ≥ ((p0_rounds.length : Nat) : Int) then some ({ p0 with run_Done := true }, p1) else ob1 (frames_join_fork p0 p0_arena p0_rounds ({ p1 with at_ := 0 })) (fun S16 => some (p0, S16)))

theorem frames_join_enter_ok {z w : World} {L : List HProp} {p0 q0 : T_frames_join} {p0_arena : T_cells_Arena} {p0_rounds : List Int} {p1 q1 : T_frames_actor} {B0 B0_arena cc2 cc4 vc0_rounds ix0_live cc6 cc8 cc10 cc12 cc14 B1 : Nat} {ca1 ca3 va0_rounds ca5 ca7 ca9 ca11 ca13 : Option Addr} {cs0_live : List Value} (H : frames_join_enter p0 p0_arena p0_rounds p1 = some (q0, q1)) (h : Fit z (sepL (ob133 B0 p0 (pA B0_arena 0) (.slice va0_rounds p0_rounds.length vc0_rounds) ca5 cc6 ca7 cc8 ca9 cc10 ca11 cc12 ca13 cc14 :: rowH 135 1 own_ptr135 (.slice ca5 p0.live.length cc6) p0.live ix0_live cs0_live :: ro3 ca7 cc8 p0.run_Holders :: rn31 ca9 cc10 p0.run_Reads :: ro2 ca11 cc12 p0.run_Marks :: ro96 ca13 cc14 p0.run_Log :: ob103 B0_arena p0_arena ca1 cc2 ca3 cc4 :: ro2 ca1 cc2 p0_arena.cell :: ro96 ca3 cc4 p0_arena.log :: ob137 B1 p1 :: L)) w) (hv0_rounds : RdRow L 1 encZ_i64 va0_rounds p0_rounds) :
    Calls Try.prog 103 #[pA B0 0, pA B1 0] w fun e w => ∃ caq0_1 ccq0_2 caq0_3 ccq0_4 caq0_5 ccq0_6 caq0_7 ccq0_8 caq0_9 ccq0_10, e = .returned (.tuple #[]) ∧ Fit z (sepL (ob133 B0 q0 (pA B0_arena 0) (.slice va0_rounds p0_rounds.length vc0_rounds) caq0_1 ccq0_2 caq0_3 ccq0_4 caq0_5 ccq0_6 caq0_7 ccq0_8 caq0_9 ccq0_10 :: rowH 135 1 own_ptr135 (.slice caq0_1 q0.live.length ccq0_2) q0.live ix0_live cs0_live :: ro3 caq0_3 ccq0_4 q0.run_Holders :: rn31 caq0_5 ccq0_6 q0.run_Reads :: ro2 caq0_7 ccq0_8 q0.run_Marks :: ro96 caq0_9 ccq0_10 q0.run_Log :: ob103 B0_arena p0_arena ca1 cc2 ca3 cc4 :: ro2 ca1 cc2 p0_arena.cell :: ro96 ca3 cc4 p0_arena.log :: ob137 B1 q1 :: L)) w := by
 unfold frames_join_enter at H
 refine enter Try.func103 rfl 24 rfl rfl [(0, pA B0 0), (1, pA B1 0)] ⟨rfl, rfl, trivial⟩ ?_
 intro j a hr
 refine wp_seq ?_
 refine wp_seq ?_
 refine regL [(B0, 4, [vI p0.round]), (B0, 3, [.slice va0_rounds p0_rounds.length vc0_rounds])] [1, 2, 5, 6, 8] 10 h (fun h => ⟨⟨h.cell 4 rfl, trivial⟩, ⟨h.cell 3 rfl, trivial⟩, trivial⟩) fun w h hd => ?_
 refine evs' hd 4 [(0, 4, pA B0 0), (1, 5, pA B0 0), (2, 6, pA B0 4), (4, 8, pA B0 0), (5, 9, pA B0 0), (6, 10, pA B0 3)] hr fun a hr => ?_
 refine elx hd 0 3 3 hr (wn rfl) rfl rfl fun a hr => ?_
 refine elx hd 1 2 7 hr (wn rfl) rfl rfl fun a hr => ?_
 refine evs' hd 0 [(8, 12, vI ((p0_rounds.length : Nat) : Int)), (9, 13, vB (decide (p0.round ≥ ((p0_rounds.length : Nat) : Int))))] hr fun a hr => ?_
 refine een ?_
 refine then_normal ?_
 refine cD hr H (fun c15 H => ?_) fun c15 H => ?_
 ·
  refine sr ?_
  refine oo [14, 15, 16, 17] [pA B0 0, pA B0 0, pA B0 8, pA B0 8] hr fun a hr => ?_
  refine st1 (wn rfl) hr h 8 (vB true) (pts B0 (.cells #[pA B0_arena 0, vI p0.table_Base, vI p0.table_Frames, .slice va0_rounds p0_rounds.length vc0_rounds, vI p0.round, .slice ca5 p0.live.length cc6, vI p0.made, vI p0.got, vB true, vI p0.run_Steps, .slice ca7 p0.run_Holders.length cc8, .slice ca9 p0.run_Reads.length cc10, .slice ca11 p0.run_Marks.length cc12, .slice ca13 p0.run_Log.length cc14] 133)) fun w h => ?_
  refine ln ?_
  refine wp_ret ?_
  refine then_ret ?_
  refine end_ret0 rfl hr ?_
  obtain ⟨rfl, rfl⟩ := ej2 H
  exact ⟨ca5, cc6, ca7, cc8, ca9, cc10, ca11, cc12, ca13, cc14, rfl, h⟩
 ·
  refine wp_skip ?_
  refine then_normal ?_
  refine sr ?_
  refine oo [18, 19, 20] [pA B1 0, pA B1 0, pA B1 15] hr fun a hr => ?_
  replace h := h.m9
  refine st1 (wn rfl) hr h 15 (vI 0) (pts B1 (.cells #[vI p1.number, vI p1.about, vI p1.op_head_t_Base, vI p1.op_head_t_Frames, vI p1.op_head_frame, vI p1.op_head_stands, vI p1.op_head_code, vI p1.op_head_v, vI p1.op_kind, vI p1.op_slot, vI p1.op_give, vB p1.inOp, vI p1.frame, vI p1.slot, vI p1.value, vI 0, vB p1.child] 137)) fun w h => ?_
  refine ln ?_
  refine wp_region_lit ?_
  obtain ⟨S16, e17, H⟩ := bd1 H
  refine oo [21, 22] [pA B0 0, pA B1 0] hr fun a hr => ?_
  replace h := h.m9.m9.m9.m9.m9.m9.m9.m9.m9
  have hc := frames_join_fork_ok (va0_rounds := va0_rounds) (vc0_rounds := vc0_rounds) (hv0_rounds := (RdRow.up 0 hv0_rounds)) (H := e17) (h := h)
  refine cl (wn rfl) hr hc ?_; clear hc h
  rintro _ w ⟨rfl, h⟩; refine ⟨_, rfl, fun a hr => ?_⟩
  refine wpList_nil ?_
  refine end_norm0 rfl hr ?_
  obtain ⟨rfl, rfl⟩ := ej2 H
  exact ⟨ca5, cc6, ca7, cc8, ca9, cc10, ca11, cc12, ca13, cc14, rfl, h⟩

/-- (*plunder/frames.join).join -/
def frames_join_join_join (p0 : T_frames_join) (p0_arena : T_cells_Arena) (p0_rounds : List Int) (p1 : T_frames_actor) : Option (T_frames_join) :=
  if (p0.live.length + 1) * 8 ≤ 140737488355328 then some ({ p0 with live := p0.live ++ [{ p1 with number := p0.made }], made := wi (p0.made + 1) }) else none

theorem frames_join_join_join_ok {z w : World} {L : List HProp} {p0 q0 : T_frames_join} {p0_arena : T_cells_Arena} {p0_rounds : List Int} {p1 : T_frames_actor} {B0 B0_arena cc2 cc4 vc0_rounds ix0_live cc6 cc8 cc10 cc12 cc14 B1 : Nat} {ca1 ca3 va0_rounds ca5 ca7 ca9 ca11 ca13 : Option Addr} {cs0_live : List Value} (H : frames_join_join_join p0 p0_arena p0_rounds p1 = some q0) (h : Fit z (sepL (ob133 B0 p0 (pA B0_arena 0) (.slice va0_rounds p0_rounds.length vc0_rounds) ca5 cc6 ca7 cc8 ca9 cc10 ca11 cc12 ca13 cc14 :: rowH 135 1 own_ptr135 (.slice ca5 p0.live.length cc6) p0.live ix0_live cs0_live :: ro3 ca7 cc8 p0.run_Holders :: rn31 ca9 cc10 p0.run_Reads :: ro2 ca11 cc12 p0.run_Marks :: ro96 ca13 cc14 p0.run_Log :: ob103 B0_arena p0_arena ca1 cc2 ca3 cc4 :: ro2 ca1 cc2 p0_arena.cell :: ro96 ca3 cc4 p0_arena.log :: ob137 B1 p1 :: L)) w) (hv0_rounds : RdRow L 1 encZ_i64 va0_rounds p0_rounds) :
    Calls Try.prog 74 #[pA B0 0, pA B1 0] w fun e w => ∃ caq0_1 ccq0_2 caq0_3 ccq0_4 caq0_5 ccq0_6 caq0_7 ccq0_8 caq0_9 ccq0_10, e = .returned (.tuple #[]) ∧ Fit z (sepL (ob133 B0 q0 (pA B0_arena 0) (.slice va0_rounds p0_rounds.length vc0_rounds) caq0_1 ccq0_2 caq0_3 ccq0_4 caq0_5 ccq0_6 caq0_7 ccq0_8 caq0_9 ccq0_10 :: rowH 135 1 own_ptr135 (.slice caq0_1 q0.live.length ccq0_2) q0.live ix0_live cs0_live :: ro3 caq0_3 ccq0_4 q0.run_Holders :: rn31 caq0_5 ccq0_6 q0.run_Reads :: ro2 caq0_7 ccq0_8 q0.run_Marks :: ro96 caq0_9 ccq0_10 q0.run_Log :: ob103 B0_arena p0_arena ca1 cc2 ca3 cc4 :: ro2 ca1 cc2 p0_arena.cell :: ro96 ca3 cc4 p0_arena.log :: L)) w := by
 unfold frames_join_join_join at H
 refine enter Try.func74 rfl 28 rfl rfl [(0, pA B0 0), (1, pA B1 0)] ⟨rfl, rfl, trivial⟩ ?_
 intro j a hr
 refine sr ?_
 refine oo [4, 5, 6, 7] [pA B1 0, pA B0 0, pA B0 0, pA B0 6] hr fun a hr => ?_
 refine ld (wn rfl) hr (vI p0.made) (h.cell 6 rfl) fun a hr => ?_
 refine oo [9, 10] [pA B1 0, pA B1 0] hr fun a hr => ?_
 replace h := h.m9
 refine st1 (wn rfl) hr h 0 (vI p0.made) (pts B1 (.cells #[vI p0.made, vI p1.about, vI p1.op_head_t_Base, vI p1.op_head_t_Frames, vI p1.op_head_frame, vI p1.op_head_stands, vI p1.op_head_code, vI p1.op_head_v, vI p1.op_kind, vI p1.op_slot, vI p1.op_give, vB p1.inOp, vI p1.frame, vI p1.slot, vI p1.value, vI p1.at_, vB p1.child] 137)) fun w h => ?_
 refine ln ?_
 refine sr ?_
 refine oo [11, 12, 13] [pA B0 0, pA B0 0, pA B0 6] hr fun a hr => ?_
 refine ld (wn rfl) hr (vI p0.made) ((h.pick 1).cell 6 rfl) fun a hr => ?_
 refine oo [15, 16, 17] [vI (wi (p0.made + 1)), pA B0 0, pA B0 6] hr fun a hr => ?_
 replace h := h.m1
 refine st1 (wn rfl) hr h 6 (vI (wi (p0.made + 1))) (pts B0 (.cells #[pA B0_arena 0, vI p0.table_Base, vI p0.table_Frames, .slice va0_rounds p0_rounds.length vc0_rounds, vI p0.round, .slice ca5 p0.live.length cc6, vI (wi (p0.made + 1)), vI p0.got, vB p0.run_Done, vI p0.run_Steps, .slice ca7 p0.run_Holders.length cc8, .slice ca9 p0.run_Reads.length cc10, .slice ca11 p0.run_Marks.length cc12, .slice ca13 p0.run_Log.length cc14] 133)) fun w h => ?_
 refine ln ?_
 refine wp_region_lit ?_
 refine oo [18, 19, 20, 21] [pA B0 0, pA B0 0, pA B0 0, pA B0 5] hr fun a hr => ?_
 refine ld (wn rfl) hr (.slice ca5 p0.live.length cc6) (h.cell 5 rfl) fun a hr => ?_
 refine o1 hr (pA B1 0) fun a hr => ?_
 refine onew (wn rfl) hr h (fun b => .slice (some ⟨b, 0, none⟩) 1 1) (#[pA B1 0]) 135 fun b15 w a h hr => ?_
 replace h := h.m2
 replace h := own_ptr135_sh (x := ({ p1 with number := p0.made })) h
 obtain ⟨c16, H⟩ := gd H
 replace h := h.m3
 refine op_append_HN (n0 := p0.live.length) (c := 1) (bytes := 8) (sz := 1) (wn rfl) rfl rfl hr rfl (by kernel_rfl) (by kernel_rfl) (E := 135) (xs := p0.live) (by kernel_rfl) (by kernel_rfl) rfl rfl rfl h ((h.pick 2).news rfl) c16 rfl fun ca17 cc18 w a h hr => ?_
 refine oo [26, 27] [pA B0 0, pA B0 5] hr fun a hr => ?_
 replace h := h.m2
 refine st1 (wn rfl) hr h 5 (.slice ca17 (p0.live ++ [{ p1 with number := p0.made }]).length cc18) (pts B0 (.cells #[pA B0_arena 0, vI p0.table_Base, vI p0.table_Frames, .slice va0_rounds p0_rounds.length vc0_rounds, vI p0.round, .slice ca17 (p0.live ++ [{ p1 with number := p0.made }]).length cc18, vI (wi (p0.made + 1)), vI p0.got, vB p0.run_Done, vI p0.run_Steps, .slice ca7 p0.run_Holders.length cc8, .slice ca9 p0.run_Reads.length cc10, .slice ca11 p0.run_Marks.length cc12, .slice ca13 p0.run_Log.length cc14] 133)) fun w h => ?_
 refine wpList_nil ?_
 refine end_norm0 rfl hr ?_
 replace H := ej1 H; subst H
 exact ⟨ca17, cc18, ca7, cc8, ca9, cc10, ca11, cc12, ca13, cc14, rfl, h.se 10 [0, 1, 3, 4, 5, 6, 7, 8, 9]⟩

/-- (*plunder/frames.join).read -/
def frames_join_read (p0 : T_frames_join) (p0_arena : T_cells_Arena) (p0_rounds : List Int) (p1 : T_frames_actor) : Option (T_frames_join × T_frames_actor) :=
  if inr_ p0.round p0_rounds.length then (if p1.at_ ≥ (at_ p0_rounds p0.round.toNat) then ob2 (frames_join_enter ({ p0 with round := wi (p0.round + 1) }) p0_arena p0_rounds ({ p1 with about := 6 })) (fun S17 S18 => some (S17, S18)) else some (p0, { p1 with about := 6 })) else none

theorem frames_join_read_ok {z w : World} {L : List HProp} {p0 q0 : T_frames_join} {p0_arena : T_cells_Arena} {p0_rounds : List Int} {p1 q1 : T_frames_actor} {B0 B0_arena cc2 cc4 vc0_rounds ix0_live cc6 cc8 cc10 cc12 cc14 B1 : Nat} {ca1 ca3 va0_rounds ca5 ca7 ca9 ca11 ca13 : Option Addr} {cs0_live : List Value} (H : frames_join_read p0 p0_arena p0_rounds p1 = some (q0, q1)) (h : Fit z (sepL (ob133 B0 p0 (pA B0_arena 0) (.slice va0_rounds p0_rounds.length vc0_rounds) ca5 cc6 ca7 cc8 ca9 cc10 ca11 cc12 ca13 cc14 :: rowH 135 1 own_ptr135 (.slice ca5 p0.live.length cc6) p0.live ix0_live cs0_live :: ro3 ca7 cc8 p0.run_Holders :: rn31 ca9 cc10 p0.run_Reads :: ro2 ca11 cc12 p0.run_Marks :: ro96 ca13 cc14 p0.run_Log :: ob103 B0_arena p0_arena ca1 cc2 ca3 cc4 :: ro2 ca1 cc2 p0_arena.cell :: ro96 ca3 cc4 p0_arena.log :: ob137 B1 p1 :: L)) w) (hv0_rounds : RdRow L 1 encZ_i64 va0_rounds p0_rounds) :
    Calls Try.prog 106 #[pA B0 0, pA B1 0] w fun e w => ∃ caq0_1 ccq0_2 caq0_3 ccq0_4 caq0_5 ccq0_6 caq0_7 ccq0_8 caq0_9 ccq0_10, e = .returned (.tuple #[]) ∧ Fit z (sepL (ob133 B0 q0 (pA B0_arena 0) (.slice va0_rounds p0_rounds.length vc0_rounds) caq0_1 ccq0_2 caq0_3 ccq0_4 caq0_5 ccq0_6 caq0_7 ccq0_8 caq0_9 ccq0_10 :: rowH 135 1 own_ptr135 (.slice caq0_1 q0.live.length ccq0_2) q0.live ix0_live cs0_live :: ro3 caq0_3 ccq0_4 q0.run_Holders :: rn31 caq0_5 ccq0_6 q0.run_Reads :: ro2 caq0_7 ccq0_8 q0.run_Marks :: ro96 caq0_9 ccq0_10 q0.run_Log :: ob103 B0_arena p0_arena ca1 cc2 ca3 cc4 :: ro2 ca1 cc2 p0_arena.cell :: ro96 ca3 cc4 p0_arena.log :: ob137 B1 q1 :: L)) w := by
 unfold frames_join_read at H
 refine enter Try.func106 rfl 32 rfl rfl [(0, pA B0 0), (1, pA B1 0)] ⟨rfl, rfl, trivial⟩ ?_
 intro j a hr
 refine sr ?_
 refine oo [4, 5, 6] [pA B1 0, pA B1 0, pA B1 1] hr fun a hr => ?_
 replace h := h.m9
 refine st1 (wn rfl) hr h 1 (vI 6) (pts B1 (.cells #[vI p1.number, vI 6, vI p1.op_head_t_Base, vI p1.op_head_t_Frames, vI p1.op_head_frame, vI p1.op_head_stands, vI p1.op_head_code, vI p1.op_head_v, vI p1.op_kind, vI p1.op_slot, vI p1.op_give, vB p1.inOp, vI p1.frame, vI p1.slot, vI p1.value, vI p1.at_, vB p1.child] 137)) fun w h => ?_
 refine ln ?_
 refine wp_seq ?_
 obtain ⟨c15, H⟩ := gd H
 refine regL [(B1, 15, [vI p1.at_]), (B0, 3, [.slice va0_rounds p0_rounds.length vc0_rounds]), (B0, 4, [vI p0.round]), (blk va0_rounds, offs va0_rounds + p0.round.toNat * 1, [vI (at_ p0_rounds p0.round.toNat)])] [1, 2, 5, 6, 9, 10, 12] 15 h (fun h => ⟨⟨h.cell 15 rfl, trivial⟩, ⟨(h.pick 1).cell 3 rfl, trivial⟩, ⟨(h.pick 1).cell 4 rfl, trivial⟩, ⟨hv0_rounds.cell c15 (h.dn 10) 0 rfl, trivial⟩, trivial⟩) fun w h hd => ?_
 refine evs' hd 6 [(0, 7, pA B1 0), (1, 8, pA B1 0), (2, 9, pA B1 15), (4, 11, pA B0 0), (5, 12, pA B0 0), (6, 13, pA B0 3), (8, 15, pA B0 0), (9, 16, pA B0 0), (10, 17, pA B0 4)] hr fun a hr => ?_
 refine elx hd 0 5 3 hr (wn rfl) rfl rfl fun a hr => ?_
 refine elx hd 1 4 7 hr (wn rfl) rfl rfl fun a hr => ?_
 refine elx hd 2 3 11 hr (wn rfl) rfl rfl fun a hr => ?_
 refine eon hd 2 12 rfl (wn rfl) hr (pA (blk va0_rounds) (offs va0_rounds + p0.round.toNat * 1)) (hrun := fun w => ri_rd (k := .i64) (E := 3) (cc := vc0_rounds) rfl (by kernel_rfl) (by kernel_rfl) rfl (by kernel_rfl) (by kernel_rfl) hv0_rounds c15) fun a hr => ?_
 refine elx hd 3 1 13 hr (wn rfl) rfl rfl fun a hr => ?_
 refine evs' hd 0 [(14, 21, vB (decide (p1.at_ ≥ (at_ p0_rounds p0.round.toNat))))] hr fun a hr => ?_
 refine een ?_
 refine then_normal ?_
 refine cD hr H (fun c16 H => ?_) fun c16 H => ?_
 ·
  refine sr ?_
  refine oo [22, 23, 24] [pA B0 0, pA B0 0, pA B0 4] hr fun a hr => ?_
  refine ld (wn rfl) hr (vI p0.round) ((h.pick 1).cell 4 rfl) fun a hr => ?_
  refine oo [26, 27, 28] [vI (wi (p0.round + 1)), pA B0 0, pA B0 4] hr fun a hr => ?_
  replace h := h.m1
  refine st1 (wn rfl) hr h 4 (vI (wi (p0.round + 1))) (pts B0 (.cells #[pA B0_arena 0, vI p0.table_Base, vI p0.table_Frames, .slice va0_rounds p0_rounds.length vc0_rounds, vI (wi (p0.round + 1)), .slice ca5 p0.live.length cc6, vI p0.made, vI p0.got, vB p0.run_Done, vI p0.run_Steps, .slice ca7 p0.run_Holders.length cc8, .slice ca9 p0.run_Reads.length cc10, .slice ca11 p0.run_Marks.length cc12, .slice ca13 p0.run_Log.length cc14] 133)) fun w h => ?_
  refine ln ?_
  refine wp_region_lit ?_
  obtain ⟨S17, S18, e19, H⟩ := bd2 H
  refine oo [29, 30] [pA B0 0, pA B1 0] hr fun a hr => ?_
  replace h := h.m1.m9.m9.m9.m9.m9.m9.m9.m9.m9
  have hc := frames_join_enter_ok (va0_rounds := va0_rounds) (vc0_rounds := vc0_rounds) (hv0_rounds := (RdRow.up 0 hv0_rounds)) (H := e19) (h := h)
  refine cl (wn rfl) hr hc ?_; clear hc h
  rintro _ w ⟨caq20, ccq21, caq22, ccq23, caq24, ccq25, caq26, ccq27, caq28, ccq29, rfl, h⟩; refine ⟨_, rfl, fun a hr => ?_⟩
  refine wpList_nil ?_
  refine end_norm0 rfl hr ?_
  obtain ⟨rfl, rfl⟩ := ej2 H
  exact ⟨caq20, ccq21, caq22, ccq23, caq24, ccq25, caq26, ccq27, caq28, ccq29, rfl, h⟩
 ·
  refine wp_skip ?_
  refine end_norm0 rfl hr ?_
  obtain ⟨rfl, rfl⟩ := ej2 H
  exact ⟨ca5, cc6, ca7, cc8, ca9, cc10, ca11, cc12, ca13, cc14, rfl, h.se 10 [1, 2, 3, 4, 5, 6, 7, 8, 9, 0]⟩

/-- (*plunder/frames.join).hold -/
def frames_join_hold (p0 : T_frames_join) (p0_arena : T_cells_Arena) (p0_rounds : List Int) (p1 : T_frames_actor) : Option (T_frames_join × T_frames_actor) :=
  if (p0.run_Holders.length + 1) * 8 ≤ 140737488355328 then if (p0.run_Reads.length + 1) * 24 ≤ 140737488355328 then ob2 (frames_join_read ({ p0 with run_Holders := p0.run_Holders ++ [p1.number], run_Reads := p0.run_Reads ++ [([] : List Int)] }) p0_arena p0_rounds ({ p1 with at_ := 0, child := false })) (fun S23 S24 => some (S23, S24)) else none else none

theorem frames_join_hold_ok {z w : World} {L : List HProp} {p0 q0 : T_frames_join} {p0_arena : T_cells_Arena} {p0_rounds : List Int} {p1 q1 : T_frames_actor} {B0 B0_arena cc2 cc4 vc0_rounds ix0_live cc6 cc8 cc10 cc12 cc14 B1 : Nat} {ca1 ca3 va0_rounds ca5 ca7 ca9 ca11 ca13 : Option Addr} {cs0_live : List Value} (H : frames_join_hold p0 p0_arena p0_rounds p1 = some (q0, q1)) (h : Fit z (sepL (ob133 B0 p0 (pA B0_arena 0) (.slice va0_rounds p0_rounds.length vc0_rounds) ca5 cc6 ca7 cc8 ca9 cc10 ca11 cc12 ca13 cc14 :: rowH 135 1 own_ptr135 (.slice ca5 p0.live.length cc6) p0.live ix0_live cs0_live :: ro3 ca7 cc8 p0.run_Holders :: rn31 ca9 cc10 p0.run_Reads :: ro2 ca11 cc12 p0.run_Marks :: ro96 ca13 cc14 p0.run_Log :: ob103 B0_arena p0_arena ca1 cc2 ca3 cc4 :: ro2 ca1 cc2 p0_arena.cell :: ro96 ca3 cc4 p0_arena.log :: ob137 B1 p1 :: L)) w) (hv0_rounds : RdRow L 1 encZ_i64 va0_rounds p0_rounds) :
    Calls Try.prog 105 #[pA B0 0, pA B1 0] w fun e w => ∃ caq0_1 ccq0_2 caq0_3 ccq0_4 caq0_5 ccq0_6 caq0_7 ccq0_8 caq0_9 ccq0_10, e = .returned (.tuple #[]) ∧ Fit z (sepL (ob133 B0 q0 (pA B0_arena 0) (.slice va0_rounds p0_rounds.length vc0_rounds) caq0_1 ccq0_2 caq0_3 ccq0_4 caq0_5 ccq0_6 caq0_7 ccq0_8 caq0_9 ccq0_10 :: rowH 135 1 own_ptr135 (.slice caq0_1 q0.live.length ccq0_2) q0.live ix0_live cs0_live :: ro3 caq0_3 ccq0_4 q0.run_Holders :: rn31 caq0_5 ccq0_6 q0.run_Reads :: ro2 caq0_7 ccq0_8 q0.run_Marks :: ro96 caq0_9 ccq0_10 q0.run_Log :: ob103 B0_arena p0_arena ca1 cc2 ca3 cc4 :: ro2 ca1 cc2 p0_arena.cell :: ro96 ca3 cc4 p0_arena.log :: ob137 B1 q1 :: L)) w := by
 unfold frames_join_hold at H
 refine enter Try.func105 rfl 39 rfl rfl [(0, pA B0 0), (1, pA B1 0)] ⟨rfl, rfl, trivial⟩ ?_
 intro j a hr
 refine wp_seq ?_
 obtain ⟨c18, H⟩ := gd H
 refine regL [(B0, 10, [.slice ca7 p0.run_Holders.length cc8]), (B1, 0, [vI p1.number])] [2, 3, 4, 7, 8] 16 h (fun h => ⟨⟨h.cell 10 rfl, trivial⟩, ⟨(h.pick 9).cell 0 rfl, trivial⟩, trivial⟩) fun w h hd => ?_
 refine evs' hd 8 [(0, 4, pA B0 0), (1, 5, pA B0 0), (2, 6, pA B0 0), (3, 7, pA B0 8), (4, 8, pA B0 10), (6, 10, pA B1 0), (7, 11, pA B1 0), (8, 12, pA B1 0)] hr fun a hr => ?_
 refine elx hd 0 7 5 hr (wn rfl) rfl rfl fun a hr => ?_
 refine elx hd 1 6 9 hr (wn rfl) rfl rfl fun a hr => ?_
 refine eo1 10 rfl ?_
 refine onew (wn rfl) hr h (fun b => .slice (some ⟨b, 0, none⟩) 1 1) (#[vI p1.number]) 3 fun b15 w a h hr => ?_
 refine ln ?_
 refine xE ?_
 refine eo1 11 rfl ?_
 replace h := h.m3
 refine op_append (n0 := p0.run_Holders.length) (c := 1) (bytes := 8) (wn rfl) rfl rfl hr rfl (by kernel_rfl) (by kernel_rfl) encZ_i64_ok (E := 3) (xs := p0.run_Holders) (by kernel_rfl) (by kernel_rfl) h (news := [p1.number]) (m := 1) rfl ((h.pick 1).news rfl) c18 rfl fun ca16 cc17 w a h hr => ?_
 refine ln ?_
 refine xE ?_
 refine evs 3 12 rfl (wn rfl) hr (pA B0 0) fun a hr => ?_
 refine evs 2 13 rfl (wn rfl) hr (pA B0 8) fun a hr => ?_
 refine evs 1 14 rfl (wn rfl) hr (pA B0 10) fun a hr => ?_
 refine eo1 15 rfl ?_
 replace h := h.m2
 refine st1 (wn rfl) hr h 10 (.slice ca16 (p0.run_Holders ++ [p1.number]).length cc17) (pts B0 (.cells #[pA B0_arena 0, vI p0.table_Base, vI p0.table_Frames, .slice va0_rounds p0_rounds.length vc0_rounds, vI p0.round, .slice ca5 p0.live.length cc6, vI p0.made, vI p0.got, vB p0.run_Done, vI p0.run_Steps, .slice ca16 (p0.run_Holders ++ [p1.number]).length cc17, .slice ca9 p0.run_Reads.length cc10, .slice ca11 p0.run_Marks.length cc12, .slice ca13 p0.run_Log.length cc14] 133)) fun w h => ?_
 refine ln ?_
 refine xE ?_
 refine een ?_
 refine then_normal ?_
 refine sr ?_
 refine oo [19, 20, 21, 22, 23] [pA B0 0, pA B0 0, pA B0 0, pA B0 8, pA B0 11] hr fun a hr => ?_
 refine ld (wn rfl) hr (.slice ca9 p0.run_Reads.length cc10) (h.cell 11 rfl) fun a hr => ?_
 refine onew (wn rfl) hr h (fun b => .slice (some ⟨b, 0, none⟩) 1 1) (#[.slice none 0 0]) 31 fun b19 w a h hr => ?_
 replace h := h.row_nil (e := 2) (sz := 1) (enc := encZ_i64)
 replace h := own_sl31_sh (x := ([] : List Int)) h
 obtain ⟨c20, H⟩ := gd H
 replace h := h.m6
 refine op_append_N (n0 := p0.run_Reads.length) (c := 1) (bytes := 24) (sz := 1) (wn rfl) rfl rfl hr rfl (by kernel_rfl) (by kernel_rfl) (E := 31) (xs := p0.run_Reads) (by kernel_rfl) (by kernel_rfl) rfl rfl rfl h ((h.pick 2).news rfl) c20 rfl fun ca21 cc22 w a h hr => ?_
 refine oo [27, 28, 29] [pA B0 0, pA B0 8, pA B0 11] hr fun a hr => ?_
 replace h := h.m2
 refine st1 (wn rfl) hr h 11 (.slice ca21 (p0.run_Reads ++ [([] : List Int)]).length cc22) (pts B0 (.cells #[pA B0_arena 0, vI p0.table_Base, vI p0.table_Frames, .slice va0_rounds p0_rounds.length vc0_rounds, vI p0.round, .slice ca5 p0.live.length cc6, vI p0.made, vI p0.got, vB p0.run_Done, vI p0.run_Steps, .slice ca16 (p0.run_Holders ++ [p1.number]).length cc17, .slice ca21 (p0.run_Reads ++ [([] : List Int)]).length cc22, .slice ca11 p0.run_Marks.length cc12, .slice ca13 p0.run_Log.length cc14] 133)) fun w h => ?_
 refine ln ?_
 refine sr ?_
 refine oo [30, 31, 32] [pA B1 0, pA B1 0, pA B1 16] hr fun a hr => ?_
 replace h := h.m11
 refine st1 (wn rfl) hr h 16 (vB false) (pts B1 (.cells #[vI p1.number, vI p1.about, vI p1.op_head_t_Base, vI p1.op_head_t_Frames, vI p1.op_head_frame, vI p1.op_head_stands, vI p1.op_head_code, vI p1.op_head_v, vI p1.op_kind, vI p1.op_slot, vI p1.op_give, vB p1.inOp, vI p1.frame, vI p1.slot, vI p1.value, vI p1.at_, vB false] 137)) fun w h => ?_
 refine ln ?_
 refine sr ?_
 refine oo [33, 34, 35] [pA B1 0, pA B1 0, pA B1 15] hr fun a hr => ?_
 refine st1 (wn rfl) hr h 15 (vI 0) (pts B1 (.cells #[vI p1.number, vI p1.about, vI p1.op_head_t_Base, vI p1.op_head_t_Frames, vI p1.op_head_frame, vI p1.op_head_stands, vI p1.op_head_code, vI p1.op_head_v, vI p1.op_kind, vI p1.op_slot, vI p1.op_give, vB p1.inOp, vI p1.frame, vI p1.slot, vI p1.value, vI 0, vB false] 137)) fun w h => ?_
 refine ln ?_
 refine wp_region_lit ?_
 obtain ⟨S23, S24, e25, H⟩ := bd2 H
 refine oo [36, 37] [pA B0 0, pA B1 0] hr fun a hr => ?_
 replace h := h.m11.m11.m11.m11.m11.m7.m9.m11.m9
 have hc := frames_join_read_ok (va0_rounds := va0_rounds) (vc0_rounds := vc0_rounds) (hv0_rounds := (RdRow.up 2 hv0_rounds)) (H := e25) (h := h)
 refine cl (wn rfl) hr hc ?_; clear hc h
 rintro _ w ⟨caq26, ccq27, caq28, ccq29, caq30, ccq31, caq32, ccq33, caq34, ccq35, rfl, h⟩; refine ⟨_, rfl, fun a hr => ?_⟩
 refine wpList_nil ?_
 refine end_norm0 rfl hr ?_
 obtain ⟨rfl, rfl⟩ := ej2 H
 exact ⟨caq26, ccq27, caq28, ccq29, caq30, ccq31, caq32, ccq33, caq34, ccq35, rfl, h.se 12 [0, 1, 2, 3, 4, 5, 6, 7, 8, 9]⟩

/-- (*plunder/frames.join).next -/
def frames_join_next (p0 : T_frames_join) (p0_arena : T_cells_Arena) (p0_rounds : List Int) (p1 : T_frames_actor) (p2 : Int) (p3 : Int) : Option (Bool × T_frames_join × T_frames_actor) :=
  (if p1.about = 0 then some (true, p0, { p1 with about := 1 }) else (if p1.about = 1 then (if p1.child = true then some (true, p0, { p1 with about := 5 }) else ob2 (frames_join_enter p0 p0_arena p0_rounds p1) (fun S18 S19 => some (true, S18, S19))) else (if p1.about = 2 then some (true, p0, { p1 with about := 3, frame := p3 }) else (if p1.about = 3 then ob1 (frames_join_join_join p0 p0_arena p0_rounds (⟨0, 1, 0, 0, 0, 0, 0, 0, 0, 0, 0, false, p1.frame, p1.at_, wi ((wi ((100 : Int) * p0.round)) + p1.at_), 0, true⟩ : T_frames_actor)) (fun S34 => ob1 (frames_join_fork S34 p0_arena p0_rounds ({ p1 with at_ := wi (p1.at_ + 1) })) (fun S46 => some (true, S34, S46))) else (if p1.about = 4 then (if p2 = 12 then some (false, p0, p1) else ob2 (frames_join_hold p0 p0_arena p0_rounds p1) (fun S50 S51 => some (true, S50, S51))) else (if p1.about = 5 then (if p2 = 10 then some (false, p0, p1) else ob2 (frames_join_hold p0 p0_arena p0_rounds p1) (fun S65 S66 => some (true, S65, S66))) else (if p1.about = 6 then if inr_ (wi (((p0.run_Reads.length : Nat) : Int) - 1)) p0.run_Reads.length then if ((at_ p0.run_Reads (wi (((p0.run_Reads.length : Nat) : Int) - 1)).toNat).length + 1) * 8 ≤ 140737488355328 then ob2 (frames_join_read ({ p0 with run_Reads := p0.run_Reads.set (wi (((p0.run_Reads.length : Nat) : Int) - 1)).toNat ((at_ p0.run_Reads (wi (((p0.run_Reads.length : Nat) : Int) - 1)).toNat) ++ [p3]) }) p0_arena p0_rounds ({ p1 with at_ := wi (p1.at_ + 1) })) (fun S89 S90 => some (true, S89, S90)) else none else none else some (true, p0, p1))))))))

theorem frames_join_next_ok {z w : World} {L : List HProp} {p0 q0 : T_frames_join} {p0_arena : T_cells_Arena} {p0_rounds : List Int} {p1 q1 : T_frames_actor} {p2 p3 : Int} {B0 B0_arena cc2 cc4 vc0_rounds ix0_live cc6 cc8 cc10 cc12 cc14 B1 : Nat} {ca1 ca3 va0_rounds ca5 ca7 ca9 ca11 ca13 : Option Addr} {cs0_live : List Value} {r0 : Bool} (H : frames_join_next p0 p0_arena p0_rounds p1 p2 p3 = some (r0, q0, q1)) (h : Fit z (sepL (ob133 B0 p0 (pA B0_arena 0) (.slice va0_rounds p0_rounds.length vc0_rounds) ca5 cc6 ca7 cc8 ca9 cc10 ca11 cc12 ca13 cc14 :: rowH 135 1 own_ptr135 (.slice ca5 p0.live.length cc6) p0.live ix0_live cs0_live :: ro3 ca7 cc8 p0.run_Holders :: rn31 ca9 cc10 p0.run_Reads :: ro2 ca11 cc12 p0.run_Marks :: ro96 ca13 cc14 p0.run_Log :: ob103 B0_arena p0_arena ca1 cc2 ca3 cc4 :: ro2 ca1 cc2 p0_arena.cell :: ro96 ca3 cc4 p0_arena.log :: ob137 B1 p1 :: L)) w) (hv0_rounds : RdRow L 1 encZ_i64 va0_rounds p0_rounds) :
    Calls Try.prog 97 #[pA B0 0, pA B1 0, vI p2, vI p3] w fun e w => ∃ caq0_1 ccq0_2 caq0_3 ccq0_4 caq0_5 ccq0_6 caq0_7 ccq0_8 caq0_9 ccq0_10, e = .returned (vB r0) ∧ Fit z (sepL (ob133 B0 q0 (pA B0_arena 0) (.slice va0_rounds p0_rounds.length vc0_rounds) caq0_1 ccq0_2 caq0_3 ccq0_4 caq0_5 ccq0_6 caq0_7 ccq0_8 caq0_9 ccq0_10 :: rowH 135 1 own_ptr135 (.slice caq0_1 q0.live.length ccq0_2) q0.live ix0_live cs0_live :: ro3 caq0_3 ccq0_4 q0.run_Holders :: rn31 caq0_5 ccq0_6 q0.run_Reads :: ro2 caq0_7 ccq0_8 q0.run_Marks :: ro96 caq0_9 ccq0_10 q0.run_Log :: ob103 B0_arena p0_arena ca1 cc2 ca3 cc4 :: ro2 ca1 cc2 p0_arena.cell :: ro96 ca3 cc4 p0_arena.log :: ob137 B1 q1 :: L)) w := by
 unfold frames_join_next at H
 refine enter Try.func97 rfl 125 rfl rfl [(0, pA B0 0), (1, pA B1 0), (2, vI p2), (3, vI p3)] ⟨rfl, rfl, rfl, rfl, trivial⟩ ?_
 intro j a hr
 refine sr ?_
 refine o1 hr (vB false) fun a hr => ?_
 refine ln ?_
 refine wp_seq ?_
 refine sr ?_
 refine oo [10, 11, 12] [pA B1 0, pA B1 0, pA B1 1] hr fun a hr => ?_
 refine ld (wn rfl) hr (vI p1.about) ((h.pick 9).cell 1 rfl) fun a hr => ?_
 refine ln ?_
 refine wp_block ?_
 refine sr ?_
 refine oo [15, 14] [vB (p1.about == 0), vB (p1.about == 0)] hr fun a hr => ?_
 refine ln ?_
 refine cD hr H (fun c15 H => ?_) fun c15 H => ?_
 ·
  refine wp_region_lit ?_
  refine oo [16, 17, 18] [pA B1 0, pA B1 0, pA B1 1] hr fun a hr => ?_
  replace h := h.m9
  refine st1 (wn rfl) hr h 1 (vI 1) (pts B1 (.cells #[vI p1.number, vI 1, vI p1.op_head_t_Base, vI p1.op_head_t_Frames, vI p1.op_head_frame, vI p1.op_head_stands, vI p1.op_head_code, vI p1.op_head_v, vI p1.op_kind, vI p1.op_slot, vI p1.op_give, vB p1.inOp, vI p1.frame, vI p1.slot, vI p1.value, vI p1.at_, vB p1.child] 137)) fun w h => ?_
  refine wpList_nil ?_
  refine blk_normal ?_
  refine then_normal ?_
  refine sr ?_
  refine o1 hr (vB true) fun a hr => ?_
  refine ln ?_
  refine wp_ret ?_
  refine end_ret1 (v := vB true) rfl hr (by kernel_rfl) ?_
  obtain ⟨rfl, rfl, rfl⟩ := ej3 H
  exact ⟨ca5, cc6, ca7, cc8, ca9, cc10, ca11, cc12, ca13, cc14, rfl, h.se 10 [1, 2, 3, 4, 5, 6, 7, 8, 9, 0]⟩
 ·
  refine sr ?_
  refine oo [20, 19] [vB (p1.about == 1), vB (p1.about == 1)] hr fun a hr => ?_
  refine ln ?_
  refine cD hr H (fun c16 H => ?_) fun c16 H => ?_
  ·
   refine sr ?_
   refine oo [21, 22, 23] [pA B1 0, pA B1 0, pA B1 16] hr fun a hr => ?_
   refine ld (wn rfl) hr (vB p1.child) ((h.pick 9).cell 16 rfl) fun a hr => ?_
   refine ln ?_
   refine cV hr H (fun c17 H => ?_) fun c17 H => ?_
   ·
    refine wp_region_lit ?_
    refine oo [25, 26, 27] [pA B1 0, pA B1 0, pA B1 1] hr fun a hr => ?_
    replace h := h.m9
    refine st1 (wn rfl) hr h 1 (vI 5) (pts B1 (.cells #[vI p1.number, vI 5, vI p1.op_head_t_Base, vI p1.op_head_t_Frames, vI p1.op_head_frame, vI p1.op_head_stands, vI p1.op_head_code, vI p1.op_head_v, vI p1.op_kind, vI p1.op_slot, vI p1.op_give, vB p1.inOp, vI p1.frame, vI p1.slot, vI p1.value, vI p1.at_, vB p1.child] 137)) fun w h => ?_
    refine wpList_nil ?_
    refine blk_normal ?_
    refine then_normal ?_
    refine sr ?_
    refine o1 hr (vB true) fun a hr => ?_
    refine ln ?_
    refine wp_ret ?_
    refine end_ret1 (v := vB true) rfl hr (by kernel_rfl) ?_
    obtain ⟨rfl, rfl, rfl⟩ := ej3 H
    exact ⟨ca5, cc6, ca7, cc8, ca9, cc10, ca11, cc12, ca13, cc14, rfl, h.se 10 [1, 2, 3, 4, 5, 6, 7, 8, 9, 0]⟩
   ·
    refine wp_region_lit ?_
    obtain ⟨S18, S19, e20, H⟩ := bd2 H
    refine oo [28, 29] [pA B0 0, pA B1 0] hr fun a hr => ?_
    have hc := frames_join_enter_ok (va0_rounds := va0_rounds) (vc0_rounds := vc0_rounds) (hv0_rounds := (RdRow.up 0 hv0_rounds)) (H := e20) (h := h)
    refine cl (wn rfl) hr hc ?_; clear hc h
    rintro _ w ⟨caq21, ccq22, caq23, ccq24, caq25, ccq26, caq27, ccq28, caq29, ccq30, rfl, h⟩; refine ⟨_, rfl, fun a hr => ?_⟩
    refine wpList_nil ?_
    refine blk_normal ?_
    refine then_normal ?_
    refine sr ?_
    refine o1 hr (vB true) fun a hr => ?_
    refine ln ?_
    refine wp_ret ?_
    refine end_ret1 (v := vB true) rfl hr (by kernel_rfl) ?_
    obtain ⟨rfl, rfl, rfl⟩ := ej3 H
    exact ⟨caq21, ccq22, caq23, ccq24, caq25, ccq26, caq27, ccq28, caq29, ccq30, rfl, h⟩
  ·
   refine sr ?_
   refine oo [32, 31] [vB (p1.about == 2), vB (p1.about == 2)] hr fun a hr => ?_
   refine ln ?_
   refine cD hr H (fun c31 H => ?_) fun c31 H => ?_
   ·
    refine sr ?_
    refine oo [33, 34, 35, 36] [pA B1 0, vI p3, pA B1 0, pA B1 12] hr fun a hr => ?_
    replace h := h.m9
    refine st1 (wn rfl) hr h 12 (vI p3) (pts B1 (.cells #[vI p1.number, vI p1.about, vI p1.op_head_t_Base, vI p1.op_head_t_Frames, vI p1.op_head_frame, vI p1.op_head_stands, vI p1.op_head_code, vI p1.op_head_v, vI p1.op_kind, vI p1.op_slot, vI p1.op_give, vB p1.inOp, vI p3, vI p1.slot, vI p1.value, vI p1.at_, vB p1.child] 137)) fun w h => ?_
    refine ln ?_
    refine wp_region_lit ?_
    refine oo [37, 38, 39] [pA B1 0, pA B1 0, pA B1 1] hr fun a hr => ?_
    refine st1 (wn rfl) hr h 1 (vI 3) (pts B1 (.cells #[vI p1.number, vI 3, vI p1.op_head_t_Base, vI p1.op_head_t_Frames, vI p1.op_head_frame, vI p1.op_head_stands, vI p1.op_head_code, vI p1.op_head_v, vI p1.op_kind, vI p1.op_slot, vI p1.op_give, vB p1.inOp, vI p3, vI p1.slot, vI p1.value, vI p1.at_, vB p1.child] 137)) fun w h => ?_
    refine wpList_nil ?_
    refine blk_normal ?_
    refine then_normal ?_
    refine sr ?_
    refine o1 hr (vB true) fun a hr => ?_
    refine ln ?_
    refine wp_ret ?_
    refine end_ret1 (v := vB true) rfl hr (by kernel_rfl) ?_
    obtain ⟨rfl, rfl, rfl⟩ := ej3 H
    exact ⟨ca5, cc6, ca7, cc8, ca9, cc10, ca11, cc12, ca13, cc14, rfl, h.se 10 [1, 2, 3, 4, 5, 6, 7, 8, 9, 0]⟩
   ·
    refine sr ?_
    refine oo [41, 40] [vB (p1.about == 3), vB (p1.about == 3)] hr fun a hr => ?_
    refine ln ?_
    refine cD hr H (fun c32 H => ?_) fun c32 H => ?_
    ·
     refine wp_seq ?_
     obtain ⟨S34, e35, H⟩ := bd1 H
     refine regL [(B1, 12, [vI p1.frame]), (B1, 15, [vI p1.at_]), (B0, 4, [vI p0.round]), (B1, 15, [vI p1.at_])] [2, 3, 6, 7, 10, 11, 13, 15, 16, 18] 22 h (fun h => ⟨⟨(h.pick 9).cell 12 rfl, trivial⟩, ⟨(h.pick 9).cell 15 rfl, trivial⟩, ⟨h.cell 4 rfl, trivial⟩, ⟨(h.pick 9).cell 15 rfl, trivial⟩, trivial⟩) fun w h hd => ?_
     refine evs' hd 9 [(0, 42, pA B0 0), (1, 43, pA B1 0), (2, 44, pA B1 0), (3, 45, pA B1 12), (5, 47, pA B1 0), (6, 48, pA B1 0), (7, 49, pA B1 15), (9, 51, pA B0 0), (10, 52, pA B0 0), (11, 53, pA B0 4), (14, 56, pA B1 0), (15, 57, pA B1 0), (16, 58, pA B1 15)] hr fun a hr => ?_
     refine elx hd 0 8 4 hr (wn rfl) rfl rfl fun a hr => ?_
     refine elx hd 1 7 8 hr (wn rfl) rfl rfl fun a hr => ?_
     refine elx hd 2 6 12 hr (wn rfl) rfl rfl fun a hr => ?_
     refine evs' hd 5 [(13, 55, vI (wi ((100 : Int) * p0.round)))] hr fun a hr => ?_
     refine elx hd 3 4 17 hr (wn rfl) rfl rfl fun a hr => ?_
     refine evs' hd 2 [(18, 60, vI (wi ((wi ((100 : Int) * p0.round)) + p1.at_))), (19, 61, .agg #[vI 0, vI 1, vI 0, vI 0, vI 0, vI 0, vI 0, vI 0, vI 0, vI 0, vI 0, vB false, vI p1.frame, vI p1.at_, vI (wi ((wi ((100 : Int) * p0.round)) + p1.at_)), vI 0, vB true])] hr fun a hr => ?_
     refine eo1 20 rfl ?_
     refine onew (wn rfl) hr h nb (#[vI 0, vI 1, vI 0, vI 0, vI 0, vI 0, vI 0, vI 0, vI 0, vI 0, vI 0, vB false, vI p1.frame, vI p1.at_, vI (wi ((wi ((100 : Int) * p0.round)) + p1.at_)), vI 0, vB true]) 137 fun b33 w a h hr => ?_
     refine ln ?_
     refine xE ?_
     refine eo1 21 rfl ?_
     replace h := h.m9.m9.m9.m9.m9.m9.m9.m9.m9
     have hc := frames_join_join_join_ok (va0_rounds := va0_rounds) (vc0_rounds := vc0_rounds) (hv0_rounds := (RdRow.up 1 hv0_rounds)) (H := e35) (h := h)
     refine cl (wn rfl) hr hc ?_; clear hc h
     rintro _ w ⟨caq36, ccq37, caq38, ccq39, caq40, ccq41, caq42, ccq43, caq44, ccq45, rfl, h⟩; refine ⟨_, rfl, fun a hr => ?_⟩
     refine ln ?_
     refine xE ?_
     refine een ?_
     refine then_normal ?_
     refine sr ?_
     refine oo [64, 65, 66] [pA B1 0, pA B1 0, pA B1 15] hr fun a hr => ?_
     refine ld (wn rfl) hr (vI p1.at_) ((h.pick 9).cell 15 rfl) fun a hr => ?_
     refine oo [68, 69, 70] [vI (wi (p1.at_ + 1)), pA B1 0, pA B1 15] hr fun a hr => ?_
     replace h := h.m9
     refine st1 (wn rfl) hr h 15 (vI (wi (p1.at_ + 1))) (pts B1 (.cells #[vI p1.number, vI p1.about, vI p1.op_head_t_Base, vI p1.op_head_t_Frames, vI p1.op_head_frame, vI p1.op_head_stands, vI p1.op_head_code, vI p1.op_head_v, vI p1.op_kind, vI p1.op_slot, vI p1.op_give, vB p1.inOp, vI p1.frame, vI p1.slot, vI p1.value, vI (wi (p1.at_ + 1)), vB p1.child] 137)) fun w h => ?_
     refine ln ?_
     refine wp_region_lit ?_
     obtain ⟨S46, e47, H⟩ := bd1 H
     refine oo [71, 72] [pA B0 0, pA B1 0] hr fun a hr => ?_
     replace h := h.m9.m9.m9.m9.m9.m9.m9.m9.m9
     have hc := frames_join_fork_ok (va0_rounds := va0_rounds) (vc0_rounds := vc0_rounds) (hv0_rounds := (RdRow.up 0 hv0_rounds)) (H := e47) (h := h)
     refine cl (wn rfl) hr hc ?_; clear hc h
     rintro _ w ⟨rfl, h⟩; refine ⟨_, rfl, fun a hr => ?_⟩
     refine wpList_nil ?_
     refine blk_normal ?_
     refine then_normal ?_
     refine sr ?_
     refine o1 hr (vB true) fun a hr => ?_
     refine ln ?_
     refine wp_ret ?_
     refine end_ret1 (v := vB true) rfl hr (by kernel_rfl) ?_
     obtain ⟨rfl, rfl, rfl⟩ := ej3 H
     exact ⟨caq36, ccq37, caq38, ccq39, caq40, ccq41, caq42, ccq43, caq44, ccq45, rfl, h⟩
    ·
     refine sr ?_
     refine oo [75, 74] [vB (p1.about == 4), vB (p1.about == 4)] hr fun a hr => ?_
     refine ln ?_
     refine cD hr H (fun c48 H => ?_) fun c48 H => ?_
     ·
      refine wp_seq ?_
      refine sr ?_
      refine oo [76, 77] [vI p2, vB (p2 == 12)] hr fun a hr => ?_
      refine ln ?_
      refine cD hr H (fun c49 H => ?_) fun c49 H => ?_
      ·
       refine sr ?_
       refine o1 hr (vB false) fun a hr => ?_
       refine ln ?_
       refine wp_ret ?_
       refine then_ret ?_
       refine blk_ret ?_
       refine then_ret ?_
       refine end_ret1 (v := vB false) rfl hr (by kernel_rfl) ?_
       obtain ⟨rfl, rfl, rfl⟩ := ej3 H
       exact ⟨ca5, cc6, ca7, cc8, ca9, cc10, ca11, cc12, ca13, cc14, rfl, h⟩
      ·
       refine wp_skip ?_
       refine then_normal ?_
       refine wp_region_lit ?_
       obtain ⟨S50, S51, e52, H⟩ := bd2 H
       refine oo [78, 79] [pA B0 0, pA B1 0] hr fun a hr => ?_
       have hc := frames_join_hold_ok (va0_rounds := va0_rounds) (vc0_rounds := vc0_rounds) (hv0_rounds := (RdRow.up 0 hv0_rounds)) (H := e52) (h := h)
       refine cl (wn rfl) hr hc ?_; clear hc h
       rintro _ w ⟨caq53, ccq54, caq55, ccq56, caq57, ccq58, caq59, ccq60, caq61, ccq62, rfl, h⟩; refine ⟨_, rfl, fun a hr => ?_⟩
       refine wpList_nil ?_
       refine blk_normal ?_
       refine then_normal ?_
       refine sr ?_
       refine o1 hr (vB true) fun a hr => ?_
       refine ln ?_
       refine wp_ret ?_
       refine end_ret1 (v := vB true) rfl hr (by kernel_rfl) ?_
       obtain ⟨rfl, rfl, rfl⟩ := ej3 H
       exact ⟨caq53, ccq54, caq55, ccq56, caq57, ccq58, caq59, ccq60, caq61, ccq62, rfl, h⟩
     ·
      refine sr ?_
      refine oo [82, 81] [vB (p1.about == 5), vB (p1.about == 5)] hr fun a hr => ?_
      refine ln ?_
      refine cD hr H (fun c63 H => ?_) fun c63 H => ?_
      ·
       refine wp_seq ?_
       refine sr ?_
       refine oo [83, 84] [vI p2, vB (p2 == 10)] hr fun a hr => ?_
       refine ln ?_
       refine cD hr H (fun c64 H => ?_) fun c64 H => ?_
       ·
        refine sr ?_
        refine o1 hr (vB false) fun a hr => ?_
        refine ln ?_
        refine wp_ret ?_
        refine then_ret ?_
        refine blk_ret ?_
        refine then_ret ?_
        refine end_ret1 (v := vB false) rfl hr (by kernel_rfl) ?_
        obtain ⟨rfl, rfl, rfl⟩ := ej3 H
        exact ⟨ca5, cc6, ca7, cc8, ca9, cc10, ca11, cc12, ca13, cc14, rfl, h⟩
       ·
        refine wp_skip ?_
        refine then_normal ?_
        refine wp_region_lit ?_
        obtain ⟨S65, S66, e67, H⟩ := bd2 H
        refine oo [85, 86] [pA B0 0, pA B1 0] hr fun a hr => ?_
        have hc := frames_join_hold_ok (va0_rounds := va0_rounds) (vc0_rounds := vc0_rounds) (hv0_rounds := (RdRow.up 0 hv0_rounds)) (H := e67) (h := h)
        refine cl (wn rfl) hr hc ?_; clear hc h
        rintro _ w ⟨caq68, ccq69, caq70, ccq71, caq72, ccq73, caq74, ccq75, caq76, ccq77, rfl, h⟩; refine ⟨_, rfl, fun a hr => ?_⟩
        refine wpList_nil ?_
        refine blk_normal ?_
        refine then_normal ?_
        refine sr ?_
        refine o1 hr (vB true) fun a hr => ?_
        refine ln ?_
        refine wp_ret ?_
        refine end_ret1 (v := vB true) rfl hr (by kernel_rfl) ?_
        obtain ⟨rfl, rfl, rfl⟩ := ej3 H
        exact ⟨caq68, ccq69, caq70, ccq71, caq72, ccq73, caq74, ccq75, caq76, ccq77, rfl, h⟩
      ·
       refine sr ?_
       refine oo [89, 88] [vB (p1.about == 6), vB (p1.about == 6)] hr fun a hr => ?_
       refine ln ?_
       refine cD hr H (fun c78 H => ?_) fun c78 H => ?_
       ·
        refine sr ?_
        refine oo [90, 91, 92, 93] [pA B0 0, pA B0 0, pA B0 8, pA B0 11] hr fun a hr => ?_
        refine ld (wn rfl) hr (.slice ca9 p0.run_Reads.length cc10) (h.cell 11 rfl) fun a hr => ?_
        refine oo [95, 96, 9] [vI ((p0.run_Reads.length : Nat) : Int), vI (wi (((p0.run_Reads.length : Nat) : Int) - 1)), vI (wi (((p0.run_Reads.length : Nat) : Int) - 1))] hr fun a hr => ?_
        refine ln ?_
        refine wp_seq ?_
        obtain ⟨c79, H⟩ := gd H
        obtain ⟨cs83, h⟩ := h.m3.rowN_take (at_ok c79)
        obtain ⟨ca80, cc81, e82, h⟩ := own_sl31_op (h.m1); subst e82
        obtain ⟨c87, H⟩ := gd H
        refine regL [(B0, 11, [.slice ca9 p0.run_Reads.length cc10]), (B0, 11, [.slice ca9 p0.run_Reads.length cc10]), (blk ca9, (wi (((p0.run_Reads.length : Nat) : Int) - 1)).toNat * 1, [.slice ca80 (at_ p0.run_Reads (wi (((p0.run_Reads.length : Nat) : Int) - 1)).toNat).length cc81])] [1, 2, 3, 7, 8, 9, 12, 16] 19 h (fun h => ⟨⟨(h.pick 2).cell 11 rfl, trivial⟩, ⟨(h.pick 2).cell 11 rfl, trivial⟩, ⟨(h.pick 1).rowH_cell (by decide) (f := 0) rfl, trivial⟩, trivial⟩) fun w h hd => ?_
        refine evs' hd 8 [(0, 97, pA B0 0), (1, 98, pA B0 0), (2, 99, pA B0 8), (3, 100, pA B0 11), (5, 102, vI (wi (((p0.run_Reads.length : Nat) : Int) - 1))), (6, 103, pA B0 0), (7, 104, pA B0 0), (8, 105, pA B0 8), (9, 106, pA B0 11), (11, 108, vI (wi (((p0.run_Reads.length : Nat) : Int) - 1))), (14, 111, vI p3)] hr fun a hr => ?_
        refine elx hd 0 7 4 hr (wn rfl) rfl rfl fun a hr => ?_
        refine elx hd 1 6 10 hr (wn rfl) rfl rfl fun a hr => ?_
        refine eon hd 5 12 rfl (wn rfl) hr (pA (blk ca9) ((wi (((p0.run_Reads.length : Nat) : Int) - 1)).toNat * 1)) (hrun := fun w => ri_rowH (k := .i64) (E := 31) rfl (by kernel_rfl) (by kernel_rfl) (by kernel_rfl) (by kernel_rfl) (h.pick 1) c79) fun a hr => ?_
        refine elx hd 2 4 13 hr (wn rfl) rfl rfl fun a hr => ?_
        refine eo1 15 rfl ?_
        refine onew (wn rfl) hr h (fun b => .slice (some ⟨b, 0, none⟩) 1 1) (#[vI p3]) 2 fun b84 w a h hr => ?_
        refine ln ?_
        refine xE ?_
        refine eo1 16 rfl ?_
        replace h := h.m1
        refine op_append (n0 := (at_ p0.run_Reads (wi (((p0.run_Reads.length : Nat) : Int) - 1)).toNat).length) (c := 1) (bytes := 8) (wn rfl) rfl rfl hr rfl (by kernel_rfl) (by kernel_rfl) encZ_i64_ok (E := 2) (xs := (at_ p0.run_Reads (wi (((p0.run_Reads.length : Nat) : Int) - 1)).toNat)) (by kernel_rfl) (by kernel_rfl) h (news := [p3]) (m := 1) rfl ((h.pick 1).news rfl) c87 rfl fun ca85 cc86 w a h hr => ?_
        refine ln ?_
        refine eE ⟨⟨(h.pick 3).cell 11 rfl, trivial⟩, ⟨(h.pick 3).cell 11 rfl, trivial⟩, ⟨(h.pick 2).rowH_cell (by decide) (f := 0) rfl, trivial⟩, trivial⟩ fun hd => ?_
        refine eon hd 1 17 rfl (wn rfl) hr (pA (blk ca9) ((wi (((p0.run_Reads.length : Nat) : Int) - 1)).toNat * 1)) (hrun := fun w => ri_rowH (k := .i64) (E := 31) rfl (by kernel_rfl) (by kernel_rfl) (by kernel_rfl) (by kernel_rfl) (h.pick 2) c79) fun a hr => ?_
        refine eo1 18 rfl ?_
        replace h := h.m2
        refine op_store_rowH (wn rfl) rfl hr rfl (by kernel_rfl) (by kernel_rfl) (v := .slice ca85 ((at_ p0.run_Reads (wi (((p0.run_Reads.length : Nat) : Int) - 1)).toNat) ++ [p3]).length cc86) rfl rfl (by kernel_rfl) (by kernel_rfl) h (i := (wi (((p0.run_Reads.length : Nat) : Int) - 1)).toNat) (f := 0) (by decide) fun w h => ?_
        refine ln ?_
        refine xE ?_
        refine een ?_
        refine then_normal ?_
        refine sr ?_
        refine oo [115, 116, 117] [pA B1 0, pA B1 0, pA B1 15] hr fun a hr => ?_
        refine ld (wn rfl) hr (vI p1.at_) ((h.pick 11).cell 15 rfl) fun a hr => ?_
        refine oo [119, 120, 121] [vI (wi (p1.at_ + 1)), pA B1 0, pA B1 15] hr fun a hr => ?_
        replace h := h.m11
        refine st1 (wn rfl) hr h 15 (vI (wi (p1.at_ + 1))) (pts B1 (.cells #[vI p1.number, vI p1.about, vI p1.op_head_t_Base, vI p1.op_head_t_Frames, vI p1.op_head_frame, vI p1.op_head_stands, vI p1.op_head_code, vI p1.op_head_v, vI p1.op_kind, vI p1.op_slot, vI p1.op_give, vB p1.inOp, vI p1.frame, vI p1.slot, vI p1.value, vI (wi (p1.at_ + 1)), vB p1.child] 137)) fun w h => ?_
        refine ln ?_
        refine wp_region_lit ?_
        refine oo [122, 123] [pA B0 0, pA B1 0] hr fun a hr => ?_
        replace h := h.m1.m2
        replace h := own_sl31_sh (x := ((at_ p0.run_Reads (wi (((p0.run_Reads.length : Nat) : Int) - 1)).toNat) ++ [p3])) h
        replace h := (h.m1).rowH_back
        replace h := h.m3.m1
        have hn87 : p0.run_Reads.length = (p0.run_Reads.set (wi (((p0.run_Reads.length : Nat) : Int) - 1)).toNat ((at_ p0.run_Reads (wi (((p0.run_Reads.length : Nat) : Int) - 1)).toNat) ++ [p3])).length := h.rowN_n; replace h := Fit.ren1 hn87 (fun q_ => rowN 31 1 own_sl31 (.slice ca9 q_ cc10) (p0.run_Reads.set (wi (((p0.run_Reads.length : Nat) : Int) - 1)).toNat ((at_ p0.run_Reads (wi (((p0.run_Reads.length : Nat) : Int) - 1)).toNat) ++ [p3]))) (fun q_ => pts B0 (.cells #[pA B0_arena 0, vI p0.table_Base, vI p0.table_Frames, .slice va0_rounds p0_rounds.length vc0_rounds, vI p0.round, .slice ca5 p0.live.length cc6, vI p0.made, vI p0.got, vB p0.run_Done, vI p0.run_Steps, .slice ca7 p0.run_Holders.length cc8, .slice ca9 q_ cc10, .slice ca11 p0.run_Marks.length cc12, .slice ca13 p0.run_Log.length cc14] 133)) h
        obtain ⟨S89, S90, e91, H⟩ := bd2 H
        replace h := h.m2.m10.m10.m10.m10.m10.m6.m10.m10.m9
        have hc := frames_join_read_ok (va0_rounds := va0_rounds) (vc0_rounds := vc0_rounds) (hv0_rounds := (RdRow.up 1 hv0_rounds)) (H := e91) (h := h)
        refine cl (wn rfl) hr hc ?_; clear hc h
        rintro _ w ⟨caq92, ccq93, caq94, ccq95, caq96, ccq97, caq98, ccq99, caq100, ccq101, rfl, h⟩; refine ⟨_, rfl, fun a hr => ?_⟩
        refine wpList_nil ?_
        refine blk_normal ?_
        refine then_normal ?_
        refine sr ?_
        refine o1 hr (vB true) fun a hr => ?_
        refine ln ?_
        refine wp_ret ?_
        refine end_ret1 (v := vB true) rfl hr (by kernel_rfl) ?_
        obtain ⟨rfl, rfl, rfl⟩ := ej3 H
        exact ⟨caq92, ccq93, caq94, ccq95, caq96, ccq97, caq98, ccq99, caq100, ccq101, rfl, h.se 11 [0, 1, 2, 3, 4, 5, 6, 7, 8, 9]⟩
       ·
        refine wp_skip ?_
        refine blk_normal ?_
        refine then_normal ?_
        refine sr ?_
        refine o1 hr (vB true) fun a hr => ?_
        refine ln ?_
        refine wp_ret ?_
        refine end_ret1 (v := vB true) rfl hr (by kernel_rfl) ?_
        obtain ⟨rfl, rfl, rfl⟩ := ej3 H
        exact ⟨ca5, cc6, ca7, cc8, ca9, cc10, ca11, cc12, ca13, cc14, rfl, h⟩

/-- (*plunder/frames.join).step -/
def frames_join_step (p0 : T_frames_join) (p0_arena : T_cells_Arena) (p0_rounds : List Int) (p1 : Int) : Option (T_frames_join × T_cells_Arena) :=
  if inr_ p1 p0.live.length then ob1 ((if (at_ p0.live p1.toNat).inOp = true then some (at_ p0.live p1.toNat) else ob1 (frames_join_begin p0 p0_arena p0_rounds (at_ p0.live p1.toNat)) (fun r23 => some (⟨(at_ p0.live p1.toNat).number, (at_ p0.live p1.toNat).about, r23.head_t_Base, r23.head_t_Frames, r23.head_frame, r23.head_stands, r23.head_code, r23.head_v, r23.kind, r23.slot, r23.give, true, (at_ p0.live p1.toNat).frame, (at_ p0.live p1.toNat).slot, (at_ p0.live p1.toNat).value, (at_ p0.live p1.toNat).at_, (at_ p0.live p1.toNat).child⟩ : T_frames_actor)))) (fun S19 => ob1 (cells_Arena_Who p0_arena S19.number) (fun S25 => ob2 (frames_Step_iface S25 (⟨S19.op_head_t_Base, S19.op_head_t_Frames, S19.op_head_frame, S19.op_head_stands, S19.op_head_code, S19.op_head_v, S19.op_kind, S19.op_slot, S19.op_give⟩ : T_frames_Op)) (fun r31 S32 => ob2 (frames_Answer r31) (fun r38 r39 => (if r38 = 0 then some ({ p0 with live := p0.live.set p1.toNat (⟨S19.number, S19.about, r31.head_t_Base, r31.head_t_Frames, r31.head_frame, r31.head_stands, r31.head_code, r31.head_v, r31.kind, r31.slot, r31.give, S19.inOp, S19.frame, S19.slot, S19.value, S19.at_, S19.child⟩ : T_frames_actor) }, S32) else ob3 (frames_join_next p0 S32 p0_rounds (⟨S19.number, S19.about, r31.head_t_Base, r31.head_t_Frames, r31.head_frame, r31.head_stands, r31.head_code, r31.head_v, r31.kind, r31.slot, r31.give, false, S19.frame, S19.slot, S19.value, S19.at_, S19.child⟩ : T_frames_actor) r38 r39) (fun r43 S44 S45 => (if r43 = true then some ({ S44 with live := S44.live.set p1.toNat S45 }, S32) else if inr_ p1 S44.live.length then if 0 ≤ (wi (p1 + 1)) ∧ (wi (p1 + 1)) ≤ ((S44.live.length : Nat) : Int) then if (wi (p1 + 1)).toNat = p1.toNat + 1 then if S44.live.length * 8 ≤ 140737488355328 then some ({ S44 with live := S44.live.eraseIdx p1.toNat }, S32) else none else none else none else none))))))) else none

theorem frames_join_step_ok {z w : World} {L : List HProp} {p0 q0 : T_frames_join} {p0_arena q0_arena : T_cells_Arena} {p0_rounds : List Int} {p1 : Int} {B0 B0_arena cc2 cc4 vc0_rounds cc6 cc8 cc10 cc12 cc14 : Nat} {ca1 ca3 va0_rounds ca5 ca7 ca9 ca11 ca13 : Option Addr} (H : frames_join_step p0 p0_arena p0_rounds p1 = some (q0, q0_arena)) (h : Fit z (sepL (ob133 B0 p0 (pA B0_arena 0) (.slice va0_rounds p0_rounds.length vc0_rounds) ca5 cc6 ca7 cc8 ca9 cc10 ca11 cc12 ca13 cc14 :: rn135 ca5 cc6 p0.live :: ro3 ca7 cc8 p0.run_Holders :: rn31 ca9 cc10 p0.run_Reads :: ro2 ca11 cc12 p0.run_Marks :: ro96 ca13 cc14 p0.run_Log :: ob103 B0_arena p0_arena ca1 cc2 ca3 cc4 :: ro2 ca1 cc2 p0_arena.cell :: ro96 ca3 cc4 p0_arena.log :: L)) w) (hv0_rounds : RdRow L 1 encZ_i64 va0_rounds p0_rounds) :
    Calls Try.prog 75 #[pA B0 0, vI p1] w fun e w => ∃ caq0_1 ccq0_2 caq0_3 ccq0_4 caq0_5 ccq0_6 caq0_7 ccq0_8 caq0_9 ccq0_10 caq0_arena_1 ccq0_arena_2 caq0_arena_3 ccq0_arena_4, e = .returned (.tuple #[]) ∧ Fit z (sepL (ob133 B0 q0 (pA B0_arena 0) (.slice va0_rounds p0_rounds.length vc0_rounds) caq0_1 ccq0_2 caq0_3 ccq0_4 caq0_5 ccq0_6 caq0_7 ccq0_8 caq0_9 ccq0_10 :: rn135 caq0_1 ccq0_2 q0.live :: ro3 caq0_3 ccq0_4 q0.run_Holders :: rn31 caq0_5 ccq0_6 q0.run_Reads :: ro2 caq0_7 ccq0_8 q0.run_Marks :: ro96 caq0_9 ccq0_10 q0.run_Log :: ob103 B0_arena q0_arena caq0_arena_1 ccq0_arena_2 caq0_arena_3 ccq0_arena_4 :: ro2 caq0_arena_1 ccq0_arena_2 q0_arena.cell :: ro96 caq0_arena_3 ccq0_arena_4 q0_arena.log :: L)) w := by
 unfold frames_join_step at H
 refine enter Try.func75 rfl 86 rfl rfl [(0, pA B0 0), (1, vI p1)] ⟨rfl, rfl, trivial⟩ ?_
 intro j a hr
 refine sr ?_
 refine oo [7, 8, 9] [pA B0 0, pA B0 0, pA B0 5] hr fun a hr => ?_
 refine ld (wn rfl) hr (.slice ca5 p0.live.length cc6) (h.cell 5 rfl) fun a hr => ?_
 obtain ⟨c15, H⟩ := gd H
 refine o1 hr (vI p1) fun a hr => ?_
 refine opv (wn rfl) hr (pA (blk ca5) (p1.toNat * 1)) (ri_rowN (k := .i64) (E := 135) rfl (by kernel_rfl) (by kernel_rfl) (by kernel_rfl) (by kernel_rfl) (h.pick 1) c15) fun a hr => ?_
 obtain ⟨cs18, h⟩ := h.m1.rowN_take (at_ok c15)
 obtain ⟨b16, e17, h⟩ := own_ptr135_op (h.m1); subst e17
 refine ld (wn rfl) hr (pA b16 0) ((h.pick 1).rowH_cell (by decide) (f := 0) rfl) fun a hr => ?_
 refine o1 hr (pA b16 0) fun a hr => ?_
 refine ln ?_
 obtain ⟨o21, H, hK20⟩ := kd1 H
 refine cut_rule (β := Unit) (fun _ a w => ∃ S19 : T_frames_actor, S19 = o21 ∧ ∃ j, Rep 86 (lk [(0, pA B0 0), (1, vI p1), (4, pA b16 0)] j) a ∧ Fit z (sepL (ob133 B0 p0 (pA B0_arena 0) (.slice va0_rounds p0_rounds.length vc0_rounds) ca5 cc6 ca7 cc8 ca9 cc10 ca11 cc12 ca13 cc14 :: ob103 B0_arena p0_arena ca1 cc2 ca3 cc4 :: ro2 ca1 cc2 p0_arena.cell :: ro96 ca3 cc4 p0_arena.log :: rowH 135 1 own_ptr135 (.slice ca5 p0.live.length cc6) p0.live p1.toNat [pA b16 0] :: ob137 b16 S19 :: ro3 ca7 cc8 p0.run_Holders :: rn31 ca9 cc10 p0.run_Reads :: ro2 ca11 cc12 p0.run_Marks :: ro96 ca13 cc14 p0.run_Log :: L)) w) ?_ ?_
 ·
  refine sr ?_
  refine oo [14, 15, 16] [pA b16 0, pA b16 0, pA b16 11] hr fun a hr => ?_
  refine ld (wn rfl) hr (vB (at_ p0.live p1.toNat).inOp) (h.cell 11 rfl) fun a hr => ?_
  refine o1 hr (vB (!(at_ p0.live p1.toNat).inOp)) fun a hr => ?_
  refine ln ?_
  refine cM hr H (fun c22 H => ?_) fun c22 H => ?_
  ·
   refine wp_skip ?_
   refine then_normal ?_
   exact ⟨(), (at_ p0.live p1.toNat), sinj H, hr.fj (h.se 10 [2, 7, 8, 9, 1, 0, 3, 4, 5, 6])⟩
  ·
   refine sr ?_
   obtain ⟨r23, e24, H⟩ := bd1 H
   refine oo [19, 20, 21] [pA b16 0, pA B0 0, pA b16 0] hr fun a hr => ?_
   replace h := h.m9.m9.m9.m9.m9.m9.m9.m8.m9
   have hc := frames_join_begin_ok (va0_rounds := va0_rounds) (vc0_rounds := vc0_rounds) (hv0_rounds := (RdRow.up 0 hv0_rounds)) (H := e24) (h := h)
   refine cl (wn rfl) hr hc ?_; clear hc h
   rintro _ w ⟨rfl, h⟩; refine ⟨_, rfl, fun a hr => ?_⟩
   refine oo [23, 24] [pA b16 0, pA b16 2] hr fun a hr => ?_
   replace h := h.m9
   refine stm (wn rfl) hr h 2 (cl_T_frames_Op r23) (pts b16 (.cells #[vI (at_ p0.live p1.toNat).number, vI (at_ p0.live p1.toNat).about, vI r23.head_t_Base, vI r23.head_t_Frames, vI r23.head_frame, vI r23.head_stands, vI r23.head_code, vI r23.head_v, vI r23.kind, vI r23.slot, vI r23.give, vB (at_ p0.live p1.toNat).inOp, vI (at_ p0.live p1.toNat).frame, vI (at_ p0.live p1.toNat).slot, vI (at_ p0.live p1.toNat).value, vI (at_ p0.live p1.toNat).at_, vB (at_ p0.live p1.toNat).child] 137)) fun w h => ?_
   refine ln ?_
   refine wp_region_lit ?_
   refine oo [25, 26, 27] [pA b16 0, pA b16 0, pA b16 11] hr fun a hr => ?_
   refine st1 (wn rfl) hr h 11 (vB true) (pts b16 (.cells #[vI (at_ p0.live p1.toNat).number, vI (at_ p0.live p1.toNat).about, vI r23.head_t_Base, vI r23.head_t_Frames, vI r23.head_frame, vI r23.head_stands, vI r23.head_code, vI r23.head_v, vI r23.kind, vI r23.slot, vI r23.give, vB true, vI (at_ p0.live p1.toNat).frame, vI (at_ p0.live p1.toNat).slot, vI (at_ p0.live p1.toNat).value, vI (at_ p0.live p1.toNat).at_, vB (at_ p0.live p1.toNat).child] 137)) fun w h => ?_
   refine ln ?_
   exact ⟨(), (⟨(at_ p0.live p1.toNat).number, (at_ p0.live p1.toNat).about, r23.head_t_Base, r23.head_t_Frames, r23.head_frame, r23.head_stands, r23.head_code, r23.head_v, r23.kind, r23.slot, r23.give, true, (at_ p0.live p1.toNat).frame, (at_ p0.live p1.toNat).slot, (at_ p0.live p1.toNat).value, (at_ p0.live p1.toNat).at_, (at_ p0.live p1.toNat).child⟩ : T_frames_actor), sinj H, hr.fj (h.se 10 [1, 7, 8, 9, 2, 0, 3, 4, 5, 6])⟩
 clear h hr a; rintro _ a w ⟨S19, rfl, j, hr, h⟩
 replace H := kk1 hK20
 refine wp_seq ?_
 obtain ⟨S25, e26, H⟩ := bd1 H
 refine regL [(B0, 0, [pA B0_arena 0]), (b16, 0, [vI S19.number])] [1, 2, 5, 6] 9 h (fun h => ⟨⟨h.cell 0 rfl, trivial⟩, ⟨(h.pick 5).cell 0 rfl, trivial⟩, trivial⟩) fun w h hd => ?_
 refine evs' hd 3 [(0, 28, pA B0 0), (1, 29, pA B0 0), (2, 30, pA B0 0), (4, 32, pA b16 0), (5, 33, pA b16 0), (6, 34, pA b16 0)] hr fun a hr => ?_
 refine elx hd 0 2 3 hr (wn rfl) rfl rfl fun a hr => ?_
 refine elx hd 1 1 7 hr (wn rfl) rfl rfl fun a hr => ?_
 refine eo1 8 rfl ?_
 replace h := h.m3.m3.m3
 have hc := cells_Arena_Who_ok (H := e26) (h := h)
 refine cl (wn rfl) hr hc ?_; clear hc h
 rintro _ w ⟨caq27, ccq28, caq29, ccq30, rfl, h⟩; refine ⟨_, rfl, fun a hr => ?_⟩
 refine ln ?_
 refine xE ?_
 refine een ?_
 refine then_normal ?_
 refine wp_seq ?_
 obtain ⟨r31, S32, e33, H⟩ := bd2 H
 refine regL [(B0, 0, [pA B0_arena 0]), (b16, 2, [vI S19.op_head_t_Base, vI S19.op_head_t_Frames, vI S19.op_head_frame, vI S19.op_head_stands, vI S19.op_head_code, vI S19.op_head_v, vI S19.op_kind, vI S19.op_slot, vI S19.op_give])] [2, 3, 5, 7, 8] 14 h (fun h => ⟨⟨(h.pick 3).cell 0 rfl, trivial⟩, ((h.pick 5).held 2 rfl), trivial⟩) fun w h hd => ?_
 refine evs' hd 7 [(0, 37, pA b16 0), (1, 38, pA B0 0), (2, 39, pA B0 0), (3, 40, pA B0 0), (6, 43, pA b16 0), (7, 44, pA b16 0), (8, 45, pA b16 2)] hr fun a hr => ?_
 refine elx hd 0 6 4 hr (wn rfl) rfl rfl fun a hr => ?_
 refine evs' hd 5 [(5, 42, .iface 26 (pA B0_arena 0))] hr fun a hr => ?_
 refine elm hd 1 4 9 hr (wn rfl) rfl rfl fun a hr => ?_
 refine eo1 10 rfl ?_
 have hc := frames_Step_iface_ok (H := e33) (h := h)
 refine cl (wn rfl) hr hc ?_; clear hc h
 rintro _ w ⟨caq34, ccq35, caq36, ccq37, rfl, h⟩; refine ⟨_, rfl, fun a hr => ?_⟩
 refine ln ?_
 refine xE ?_
 refine evs 2 11 rfl (wn rfl) hr (pA b16 0) fun a hr => ?_
 refine evs 1 12 rfl (wn rfl) hr (pA b16 2) fun a hr => ?_
 refine eo1 13 rfl ?_
 replace h := h.m5
 refine stm (wn rfl) hr h 2 (cl_T_frames_Op r31) (pts b16 (.cells #[vI S19.number, vI S19.about, vI r31.head_t_Base, vI r31.head_t_Frames, vI r31.head_frame, vI r31.head_stands, vI r31.head_code, vI r31.head_v, vI r31.kind, vI r31.slot, vI r31.give, vB S19.inOp, vI S19.frame, vI S19.slot, vI S19.value, vI S19.at_, vB S19.child] 137)) fun w h => ?_
 refine ln ?_
 refine xE ?_
 refine een ?_
 refine then_normal ?_
 refine sr ?_
 refine oo [51, 52, 53] [pA b16 0, pA b16 0, pA b16 2] hr fun a hr => ?_
 refine ldm (wn rfl) hr (ag_T_frames_Op r31) (cs := cl_T_frames_Op r31) (h.held 2 rfl) fun a hr => ?_
 obtain ⟨r38, r39, e40, H⟩ := bd2 H
 have hc := frames_Answer_ok (H := e40) (h := h)
 refine cl (wn rfl) hr hc ?_; clear hc h
 rintro _ w ⟨rfl, h⟩; refine ⟨_, rfl, fun a hr => ?_⟩
 refine oo [50, 56, 57, 5, 6] [.tuple #[vI r38, vI r39], vI r38, vI r39, vI r38, vI r39] hr fun a hr => ?_
 refine ln ?_
 refine wp_seq ?_
 refine sr ?_
 refine oo [58, 59] [vI r38, vB (r38 == 0)] hr fun a hr => ?_
 refine ln ?_
 refine cD hr H (fun c41 H => ?_) fun c41 H => ?_
 ·
  refine wp_ret ?_
  refine then_ret ?_
  refine end_ret0 rfl hr ?_
  replace h := h.m5.m1
  replace h := own_ptr135_sh (x := (⟨S19.number, S19.about, r31.head_t_Base, r31.head_t_Frames, r31.head_frame, r31.head_stands, r31.head_code, r31.head_v, r31.kind, r31.slot, r31.give, S19.inOp, S19.frame, S19.slot, S19.value, S19.at_, S19.child⟩ : T_frames_actor)) h
  replace h := (h.m1).rowH_back
  replace h := h.m4.m1
  have hn41 : p0.live.length = (p0.live.set p1.toNat (⟨S19.number, S19.about, r31.head_t_Base, r31.head_t_Frames, r31.head_frame, r31.head_stands, r31.head_code, r31.head_v, r31.kind, r31.slot, r31.give, S19.inOp, S19.frame, S19.slot, S19.value, S19.at_, S19.child⟩ : T_frames_actor)).length := h.rowN_n; replace h := Fit.ren1 hn41 (fun q_ => rowN 135 1 own_ptr135 (.slice ca5 q_ cc6) (p0.live.set p1.toNat (⟨S19.number, S19.about, r31.head_t_Base, r31.head_t_Frames, r31.head_frame, r31.head_stands, r31.head_code, r31.head_v, r31.kind, r31.slot, r31.give, S19.inOp, S19.frame, S19.slot, S19.value, S19.at_, S19.child⟩ : T_frames_actor))) (fun q_ => pts B0 (.cells #[pA B0_arena 0, vI p0.table_Base, vI p0.table_Frames, .slice va0_rounds p0_rounds.length vc0_rounds, vI p0.round, .slice ca5 q_ cc6, vI p0.made, vI p0.got, vB p0.run_Done, vI p0.run_Steps, .slice ca7 p0.run_Holders.length cc8, .slice ca9 p0.run_Reads.length cc10, .slice ca11 p0.run_Marks.length cc12, .slice ca13 p0.run_Log.length cc14] 133)) h
  obtain ⟨rfl, rfl⟩ := ej2 H
  exact ⟨ca5, cc6, ca7, cc8, ca9, cc10, ca11, cc12, ca13, cc14, caq34, ccq35, caq36, ccq37, rfl, h.se 9 [1, 0, 5, 6, 7, 8, 2, 3, 4]⟩
 ·
  refine wp_skip ?_
  refine then_normal ?_
  refine sr ?_
  refine oo [60, 61, 62] [pA b16 0, pA b16 0, pA b16 11] hr fun a hr => ?_
  refine st1 (wn rfl) hr h 11 (vB false) (pts b16 (.cells #[vI S19.number, vI S19.about, vI r31.head_t_Base, vI r31.head_t_Frames, vI r31.head_frame, vI r31.head_stands, vI r31.head_code, vI r31.head_v, vI r31.kind, vI r31.slot, vI r31.give, vB false, vI S19.frame, vI S19.slot, vI S19.value, vI S19.at_, vB S19.child] 137)) fun w h => ?_
  refine ln ?_
  refine sr ?_
  obtain ⟨r43, S44, S45, e46, H⟩ := bd3 H
  refine oo [63, 64, 65, 66] [pA B0 0, pA b16 0, vI r38, vI r39] hr fun a hr => ?_
  replace h := h.m3.m3.m3.m9.m9.m9.m9.m9.m9
  have hc := frames_join_next_ok (va0_rounds := va0_rounds) (vc0_rounds := vc0_rounds) (hv0_rounds := (RdRow.up 0 hv0_rounds)) (H := e46) (h := h)
  refine cl (wn rfl) hr hc ?_; clear hc h
  rintro _ w ⟨caq47, ccq48, caq49, ccq50, caq51, ccq52, caq53, ccq54, caq55, ccq56, rfl, h⟩; refine ⟨_, rfl, fun a hr => ?_⟩
  refine o1 hr (vB (!r43)) fun a hr => ?_
  refine ln ?_
  refine cM hr H (fun c57 H => ?_) fun c57 H => ?_
  ·
   refine wp_skip ?_
   refine end_norm0 rfl hr ?_
   replace h := h.m1.m9
   replace h := own_ptr135_sh (x := S45) h
   replace h := (h.m1).rowH_back
   have hn57 : S44.live.length = (S44.live.set p1.toNat S45).length := h.rowN_n; replace h := Fit.ren1 hn57 (fun q_ => rowN 135 1 own_ptr135 (.slice caq47 q_ ccq48) (S44.live.set p1.toNat S45)) (fun q_ => pts B0 (.cells #[pA B0_arena 0, vI S44.table_Base, vI S44.table_Frames, .slice va0_rounds p0_rounds.length vc0_rounds, vI S44.round, .slice caq47 q_ ccq48, vI S44.made, vI S44.got, vB S44.run_Done, vI S44.run_Steps, .slice caq49 S44.run_Holders.length ccq50, .slice caq51 S44.run_Reads.length ccq52, .slice caq53 S44.run_Marks.length ccq54, .slice caq55 S44.run_Log.length ccq56] 133)) h
   obtain ⟨rfl, rfl⟩ := ej2 H
   exact ⟨caq47, ccq48, caq49, ccq50, caq51, ccq52, caq53, ccq54, caq55, ccq56, caq34, ccq35, caq36, ccq37, rfl, h.se 9 [1, 0, 2, 3, 4, 5, 6, 7, 8]⟩
  ·
   obtain ⟨c59, H⟩ := gd H
   obtain ⟨c60, H⟩ := gd H
   obtain ⟨c61, H⟩ := gd H
   obtain ⟨c62, H⟩ := gd H
   refine regL [(B0, 5, [.slice caq47 S44.live.length ccq48]), (B0, 5, [.slice caq47 S44.live.length ccq48])] [2, 3, 6, 8, 9, 12, 13] 18 h (fun h => ⟨⟨h.cell 5 rfl, trivial⟩, ⟨h.cell 5 rfl, trivial⟩, trivial⟩) fun w h hd => ?_
   refine evs' hd 8 [(0, 69, pA B0 0), (1, 70, pA B0 0), (2, 71, pA B0 0), (3, 72, pA B0 5), (5, 74, vI p1), (7, 76, pA B0 0), (8, 77, pA B0 0), (9, 78, pA B0 5), (11, 80, vI p1), (12, 81, vI (wi (p1 + 1)))] hr fun a hr => ?_
   refine elx hd 0 7 4 hr (wn rfl) rfl rfl fun a hr => ?_
   refine eon hd 6 6 rfl (wn rfl) hr (.slice caq47 p1.toNat ccq48) (hrun := fun w => cutH (k := .i64) rfl (by kernel_rfl) (by kernel_rfl) (by kernel_rfl) (by kernel_rfl) (h.pick 1) c59) fun a hr => ?_
   refine elx hd 1 5 10 hr (wn rfl) rfl rfl fun a hr => ?_
   refine eon hd 4 13 rfl (wn rfl) hr (tl caq47 S44.live.length ccq48 (wi (p1 + 1)).toNat 1) (hrun := fun w => tailH (k := .i64) rfl (by kernel_rfl) (by kernel_rfl) (by kernel_rfl) (by kernel_rfl) (h.pick 1) c60) fun a hr => ?_
   refine eo1 14 rfl ?_
   replace h := h.m1
   refine op_remove (n0 := S44.live.length) (bytes := 8) (sz := 1) (wn rfl) rfl rfl hr rfl (by kernel_rfl) (by kernel_rfl) c61 (E := 135) (by kernel_rfl) (by kernel_rfl) rfl h c62 rfl fun ca63 cc64 w a h hr => ?_
   refine ln ?_
   refine xE ?_
   refine evs 2 15 rfl (wn rfl) hr (pA B0 0) fun a hr => ?_
   refine evs 1 16 rfl (wn rfl) hr (pA B0 5) fun a hr => ?_
   refine eo1 17 rfl ?_
   replace h := h.m1
   refine st1 (wn rfl) hr h 5 (.slice ca63 (S44.live.eraseIdx p1.toNat).length cc64) (pts B0 (.cells #[pA B0_arena 0, vI S44.table_Base, vI S44.table_Frames, .slice va0_rounds p0_rounds.length vc0_rounds, vI S44.round, .slice ca63 (S44.live.eraseIdx p1.toNat).length cc64, vI S44.made, vI S44.got, vB S44.run_Done, vI S44.run_Steps, .slice caq49 S44.run_Holders.length ccq50, .slice caq51 S44.run_Reads.length ccq52, .slice caq53 S44.run_Marks.length ccq54, .slice caq55 S44.run_Log.length ccq56] 133)) fun w h => ?_
   refine ln ?_
   refine xE ?_
   refine een ?_
   refine end_norm0 rfl hr ?_
   obtain ⟨rfl, rfl⟩ := ej2 H
   exact ⟨ca63, cc64, caq49, ccq50, caq51, ccq52, caq53, ccq54, caq55, ccq56, caq34, ccq35, caq36, ccq37, rfl, h.se 10 [0, 1, 2, 3, 4, 5, 6, 7, 8]⟩

/-- (*plunder/cells.Arena).Cells -/
def cells_Arena_Cells (p0 : T_cells_Arena) : Option ((List Int)) :=
  if 0 ≤ ((p0.cell.length : Nat) : Int) ∧ ((p0.cell.length : Nat) : Int) * 8 ≤ 140737488355328 then if p0.cell.length = (List.replicate p0.cell.length (0 : Int)).length then some p0.cell else none else none

theorem cells_Arena_Cells_ok {z w : World} {L : List HProp} {p0 : T_cells_Arena} {B0 cc2 cc4 : Nat} {ca1 ca3 : Option Addr} {r0 : List Int} (H : cells_Arena_Cells p0 = some r0) (h : Fit z (sepL (ob103 B0 p0 ca1 cc2 ca3 cc4 :: ro2 ca1 cc2 p0.cell :: ro96 ca3 cc4 p0.log :: L)) w)  :
    Calls Try.prog 21 #[pA B0 0] w fun e w => ∃ car0_1, e = .returned (.slice car0_1 r0.length r0.length) ∧ Fit z (sepL (ob103 B0 p0 ca1 cc2 ca3 cc4 :: ro2 ca1 cc2 p0.cell :: ro96 ca3 cc4 p0.log :: ro2 car0_1 r0.length r0 :: L)) w := by
 unfold cells_Arena_Cells at H
 refine enter Try.func21 rfl 19 rfl rfl [(0, pA B0 0)] ⟨rfl, trivial⟩ ?_
 intro j a hr
 refine sr ?_
 refine o1 hr (.slice none 0 0) fun a hr => ?_
 refine ln ?_
 refine wp_seq ?_
 refine sr ?_
 refine oo [4, 5] [pA B0 0, vB false] hr fun a hr => ?_
 refine ln ?_
 refine cond_ff hr (b := false) rfl ?_
 refine wp_skip ?_
 refine then_normal ?_
 refine sr ?_
 refine oo [6, 7, 8] [pA B0 0, pA B0 0, pA B0 2] hr fun a hr => ?_
 refine ld (wn rfl) hr (.slice ca1 p0.cell.length cc2) (h.cell 2 rfl) fun a hr => ?_
 obtain ⟨c5, H⟩ := gd H
 refine o1 hr (vI ((p0.cell.length : Nat) : Int)) fun a hr => ?_
 refine op_make_row (i := ((p0.cell.length : Nat) : Int)) (bytes := 8) (zc := #[vI 0]) (0 : Int) (wn rfl) rfl rfl hr rfl (by kernel_rfl) (by kernel_rfl) c5 encZ_i64_ok (E := 2) (by kernel_rfl) (by kernel_rfl) rfl rfl h fun ca6 w a h hr => ?_
 refine o1 hr (.slice ca6 (List.replicate p0.cell.length (0 : Int)).length p0.cell.length) fun a hr => ?_
 refine ln ?_
 refine sr ?_
 refine oo [12, 13, 14, 15] [.slice ca6 (List.replicate p0.cell.length (0 : Int)).length p0.cell.length, pA B0 0, pA B0 0, pA B0 2] hr fun a hr => ?_
 refine ld (wn rfl) hr (.slice ca1 p0.cell.length cc2) ((h.pick 1).cell 2 rfl) fun a hr => ?_
 obtain ⟨c7, H⟩ := gd H
 replace h := h.m2.m1
 refine op_copy_row (wn rfl) rfl rfl hr rfl (by kernel_rfl) (by kernel_rfl) encZ_i64_ok (E := 2) (by kernel_rfl) (by kernel_rfl) c7 h fun w a h hr => ?_
 refine ln ?_
 refine sr ?_
 refine oo [18, 2] [.slice ca6 (List.replicate p0.cell.length (0 : Int)).length p0.cell.length, .slice ca6 (List.replicate p0.cell.length (0 : Int)).length p0.cell.length] hr fun a hr => ?_
 refine ln ?_
 refine wp_ret ?_
 refine end_ret1 (v := .slice ca6 (List.replicate p0.cell.length (0 : Int)).length p0.cell.length) rfl hr (by kernel_rfl) ?_
 have hn7 : (List.replicate p0.cell.length (0 : Int)).length = p0.cell.length := h.row_n; replace h := Fit.ren0 hn7 (fun q_ => rowOf 2 1 encZ_i64 (.slice ca6 q_ p0.cell.length) p0.cell) h
 replace H := ej1 H; subst H
 exact ⟨ca6, (by first | rfl | simp only [hn7]), h.se 4 [2, 1, 3, 0]⟩

/-- (*plunder/cells.Arena).Log -/
def cells_Arena_Log (p0 : T_cells_Arena) : Option ((List T_api_Access)) :=
  if 0 ≤ ((p0.log.length : Nat) : Int) ∧ ((p0.log.length : Nat) : Int) * 48 ≤ 140737488355328 then if p0.log.length = (List.replicate p0.log.length (⟨0, 0, 0, 0, 0, false⟩ : T_api_Access)).length then some p0.log else none else none

theorem cells_Arena_Log_ok {z w : World} {L : List HProp} {p0 : T_cells_Arena} {B0 cc2 cc4 : Nat} {ca1 ca3 : Option Addr} {r0 : List T_api_Access} (H : cells_Arena_Log p0 = some r0) (h : Fit z (sepL (ob103 B0 p0 ca1 cc2 ca3 cc4 :: ro2 ca1 cc2 p0.cell :: ro96 ca3 cc4 p0.log :: L)) w)  :
    Calls Try.prog 24 #[pA B0 0] w fun e w => ∃ car0_1, e = .returned (.slice car0_1 r0.length r0.length) ∧ Fit z (sepL (ob103 B0 p0 ca1 cc2 ca3 cc4 :: ro2 ca1 cc2 p0.cell :: ro96 ca3 cc4 p0.log :: ro96 car0_1 r0.length r0 :: L)) w := by
 unfold cells_Arena_Log at H
 refine enter Try.func24 rfl 19 rfl rfl [(0, pA B0 0)] ⟨rfl, trivial⟩ ?_
 intro j a hr
 refine sr ?_
 refine o1 hr (.slice none 0 0) fun a hr => ?_
 refine ln ?_
 refine wp_seq ?_
 refine sr ?_
 refine oo [4, 5] [pA B0 0, vB false] hr fun a hr => ?_
 refine ln ?_
 refine cond_ff hr (b := false) rfl ?_
 refine wp_skip ?_
 refine then_normal ?_
 refine sr ?_
 refine oo [6, 7, 8] [pA B0 0, pA B0 0, pA B0 3] hr fun a hr => ?_
 refine ld (wn rfl) hr (.slice ca3 p0.log.length cc4) (h.cell 3 rfl) fun a hr => ?_
 obtain ⟨c5, H⟩ := gd H
 refine o1 hr (vI ((p0.log.length : Nat) : Int)) fun a hr => ?_
 refine op_make_row (i := ((p0.log.length : Nat) : Int)) (bytes := 48) (zc := #[vI 0, vI 0, vI 0, vI 0, vI 0, vB false]) (⟨0, 0, 0, 0, 0, false⟩ : T_api_Access) (wn rfl) rfl rfl hr rfl (by kernel_rfl) (by kernel_rfl) c5 enc_T_api_Access_ok (E := 96) (by kernel_rfl) (by kernel_rfl) rfl rfl h fun ca6 w a h hr => ?_
 refine o1 hr (.slice ca6 (List.replicate p0.log.length (⟨0, 0, 0, 0, 0, false⟩ : T_api_Access)).length p0.log.length) fun a hr => ?_
 refine ln ?_
 refine sr ?_
 refine oo [12, 13, 14, 15] [.slice ca6 (List.replicate p0.log.length (⟨0, 0, 0, 0, 0, false⟩ : T_api_Access)).length p0.log.length, pA B0 0, pA B0 0, pA B0 3] hr fun a hr => ?_
 refine ld (wn rfl) hr (.slice ca3 p0.log.length cc4) ((h.pick 1).cell 3 rfl) fun a hr => ?_
 obtain ⟨c7, H⟩ := gd H
 replace h := h.m3.m1
 refine op_copy_row (wn rfl) rfl rfl hr rfl (by kernel_rfl) (by kernel_rfl) enc_T_api_Access_ok (E := 96) (by kernel_rfl) (by kernel_rfl) c7 h fun w a h hr => ?_
 refine ln ?_
 refine sr ?_
 refine oo [18, 2] [.slice ca6 (List.replicate p0.log.length (⟨0, 0, 0, 0, 0, false⟩ : T_api_Access)).length p0.log.length, .slice ca6 (List.replicate p0.log.length (⟨0, 0, 0, 0, 0, false⟩ : T_api_Access)).length p0.log.length] hr fun a hr => ?_
 refine ln ?_
 refine wp_ret ?_
 refine end_ret1 (v := .slice ca6 (List.replicate p0.log.length (⟨0, 0, 0, 0, 0, false⟩ : T_api_Access)).length p0.log.length) rfl hr (by kernel_rfl) ?_
 have hn7 : (List.replicate p0.log.length (⟨0, 0, 0, 0, 0, false⟩ : T_api_Access)).length = p0.log.length := h.row_n; replace h := Fit.ren0 hn7 (fun q_ => rowOf 96 6 enc_T_api_Access (.slice ca6 q_ p0.log.length) p0.log) h
 replace H := ej1 H; subst H
 exact ⟨ca6, (by first | rfl | simp only [hn7]), h.se 4 [2, 3, 1, 0]⟩

def frames_Play_l1 (K : Nat) (p0 : List Int) : Nat → Int → Int → Option ((Int) ⊕ (T_api_JoinRun × Int))
  | 0, _, _ => none
  | k1 + 1, g9, g10 => (if g10 < ((p0.length : Nat) : Int) then if inr_ g10 p0.length then (if (at_ p0 g10.toNat) < 0 then some (.inr ((⟨false, 0, ([] : List Int), ([] : List (List Int)), ([] : List Int), ([] : List T_api_Access)⟩ : T_api_JoinRun), 80)) else (if (at_ p0 g10.toNat) > 8 then some (.inr ((⟨false, 0, ([] : List Int), ([] : List (List Int)), ([] : List Int), ([] : List T_api_Access)⟩ : T_api_JoinRun), 80)) else (frames_Play_l1 K p0 k1 (wi (g9 + (at_ p0 g10.toNat))) (wi (g10 + 1))))) else none else some (.inl g9))
def frames_Play_l2 (K : Nat) (p0 : List Int) (p1 : List Int) : Nat → T_frames_join → T_cells_Arena → Int → Option (T_frames_join × T_cells_Arena)
  | 0, _, _, _ => none
  | k2 + 1, S72, S73, g88 => (if g88 < ((p1.length : Nat) : Int) then if inr_ g88 p1.length then (if S72.run_Done = true then some (S72, S73) else ob1 (ops_Mod (at_ p1 g88.toNat) ((S72.live.length : Nat) : Int)) (fun r92 => ob2 (frames_join_step S72 S73 p0 r92) (fun S94 S95 => (frames_Play_l2 K p0 p1 k2 ({ S94 with run_Steps := wi (S94.run_Steps + 1) }) S95 (wi (g88 + 1)))))) else none else some (S72, S73))
def frames_Play_l3 (K : Nat) (g6 : Int) (S54 : T_frames_join) (r111 : List Int) : Nat → (List Int) → Int → Option ((List Int))
  | 0, _, _ => none
  | k3 + 1, l121, g122 => (if g122 < g6 then ob1 (frames_Table__mark (⟨S54.table_Base, S54.table_Frames⟩ : T_frames_Table) g122) (fun r124 => if inr_ r124 r111.length then if (l121.length + 1) * 8 ≤ 140737488355328 then (frames_Play_l3 K g6 S54 r111 k3 (l121 ++ [(at_ r111 r124.toNat)]) (wi (g122 + 1))) else none else none) else some l121)
/-- plunder/frames.Play -/
def frames_Play (K : Nat) (p0 : List Int) (p1 : List Int) : Option (T_api_JoinRun × Int) :=
  jn0 ((if ((p0.length : Nat) : Int) > 64 then some (.inr ((⟨false, 0, ([] : List Int), ([] : List (List Int)), ([] : List Int), ([] : List T_api_Access)⟩ : T_api_JoinRun), 2)) else (if ((p1.length : Nat) : Int) > 1048576 then some (.inr ((⟨false, 0, ([] : List Int), ([] : List (List Int)), ([] : List Int), ([] : List T_api_Access)⟩ : T_api_JoinRun), 2)) else some (.inl ())))) (jn1 ((frames_Play_l1 K p0 K 1 0)) (fun g6 => ob1 (frames_Cells g6) (fun r16 => ob2 (cells_New r16) (fun r18 r19 => (match r18 with | some S21 => ob3 (frames_New_iface K S21 g6) (fun r27 r28 S29 => ob1 (cells_Arena_Watch S29 true) (fun S35 => ob1 (frames_join_join (⟨r27.Base, r27.Frames, 0, ([] : List T_frames_actor), 0, 0, false, 0, ([] : List Int), ([] : List (List Int)), ([] : List Int), ([] : List T_api_Access)⟩ : T_frames_join) S35 p0 (⟨0, 0, 0, 0, 0, 0, 0, 0, 0, 0, 0, false, 0, 0, 0, 0, false⟩ : T_frames_actor)) (fun S42 => ob2 ((frames_Play_l2 K p0 p1 K S42 S35 0)) (fun S54 S55 => ob1 (cells_Arena_Cells S55) (fun r111 => ob1 ((frames_Play_l3 K g6 S54 r111 K S54.run_Marks 0)) (fun l116 => ob1 (cells_Arena_Log S55) (fun r131 => some ((⟨S54.run_Done, S54.run_Steps, S54.run_Holders, S54.run_Reads, l116, r131⟩ : T_api_JoinRun), 0)))))))) | none => none)))))


end Go.Proofs.Ytnghahgfcaolbaa.Mo
