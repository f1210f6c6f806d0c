/- what the functions compute, as plain Lean functions, and that they do -/
import Derived.Test.YtpikpffbcjpmcaaDoorWa3
namespace Go.Proofs.YtpikpffbcjpmcaaDoor.Mo
open Go Go.RowKit Go.Proofs.YtpikpffbcjpmcaaDoor.SL Go.Proofs.YtpikpffbcjpmcaaDoor.GX
set_option linter.unusedVariables false
set_option linter.unusedSimpArgs false
set_option maxRecDepth 100000
set_option maxHeartbeats 4000000
noncomputable section

theorem frames_Op_alloc_iface_ok {z w : World} {L : List HProp} {p0 q0 : T_frames_Op} {p1 q1 : T_cells_Arena} {B0 B1 cc2 cc4 : Nat} {ca1 ca3 : Option Addr} {r0 : Int} (H : frames_Op_alloc_iface p0 p1 = some (r0, q0, q1)) (h : Fit z (sepL (ob90 B0 p0 :: ob102 B1 p1 ca1 cc2 ca3 cc4 :: ro2 ca1 cc2 p1.cell :: ro111 ca3 cc4 p1.log :: L)) w)  :
    Calls Tryd.prog 65 #[pA B0 0, .iface 37 (pA B1 0)] w fun e w => ∃ caq1_1 ccq1_2 caq1_3 ccq1_4, e = .returned (vI r0) ∧ Fit z (sepL (ob90 B0 q0 :: ob102 B1 q1 caq1_1 ccq1_2 caq1_3 ccq1_4 :: ro2 caq1_1 ccq1_2 q1.cell :: ro111 caq1_3 ccq1_4 q1.log :: L)) w := by
 unfold frames_Op_alloc_iface at H
 refine enter Tryd.func65 rfl 46 rfl rfl [(0, pA B0 0), (1, .iface 37 (pA B1 0))] ⟨rfl, rfl, trivial⟩ ?_
 intro j a hr
 refine sr ?_
 refine o1 hr (vI 0) fun a hr => ?_
 refine ln ?_
 refine wp_seq ?_
 obtain ⟨r5, e6, H⟩ := bd1 H
 obtain ⟨r7, r8, S9, e10, H⟩ := bd3 H
 refine regL [(B0, 0, [vI p0.head_t_Base, vI p0.head_t_Frames])] [2, 3, 4, 6, 7, 8] 16 h (fun h => ⟨(h.held 0 rfl), trivial⟩) fun w h hd => ?_
 refine evs' hd 8 [(0, 8, .iface 37 (pA B1 0)), (1, 9, pA B0 0), (2, 10, pA B0 0), (3, 11, pA B0 0), (4, 12, pA B0 0), (7, 15, .func (.method "Add") #[.iface 37 (pA B1 0)] #[]), (8, 16, .func (.method "Add") #[.iface 37 (pA B1 0)] #[]), (9, 17, .iface 37 (pA B1 0))] hr fun a hr => ?_
 refine elm hd 0 7 5 hr (wn rfl) rfl rfl fun a hr => ?_
 refine eo1 6 rfl ?_
 have hc := frames_Table__next_ok (H := e6) (h := h)
 refine cl (wn rfl) hr hc ?_; clear hc h
 rintro _ w ⟨rfl, h⟩; refine ⟨_, rfl, fun a hr => ?_⟩
 refine ln ?_
 refine eE ⟨(h.held 0 rfl), trivial⟩ fun hd => ?_
 refine eo1 10 rfl ?_
 replace h := h.m3.m3.m3
 have hc := cells_Arena_Add_ok (H := e10) (h := h)
 refine cl (wn rfl) hr hc ?_; clear hc h
 rintro _ w ⟨caq11, ccq12, caq13, ccq14, rfl, h⟩; refine ⟨_, rfl, fun a hr => ?_⟩
 refine ln ?_
 refine xE ?_
 refine evs 4 11 rfl (wn rfl) hr (.tuple #[vI r7, vI r8]) fun a hr => ?_
 refine evs 3 12 rfl (wn rfl) hr (vI r7) fun a hr => ?_
 refine evs 2 13 rfl (wn rfl) hr (vI r8) fun a hr => ?_
 refine evs 1 14 rfl (wn rfl) hr (vI r7) fun a hr => ?_
 refine evs 0 15 rfl (wn rfl) hr (vI r8) fun a hr => ?_
 refine een ?_
 refine then_normal ?_
 refine wp_seq ?_
 refine sr ?_
 refine oo [21, 22] [vI r8, vB (r8 != 0)] hr fun a hr => ?_
 refine ln ?_
 refine cN hr H (fun c15 H => ?_) fun c15 H => ?_
 ·
  refine wp_skip ?_
  refine then_normal ?_
  refine wp_seq ?_
  obtain ⟨o18, H, hK17⟩ := kd1 H
  refine cut_rule (β := Unit) (fun _ a w => ∃ g16 : Bool, g16 = o18 ∧ ∃ j, Rep 46 (lk [(0, pA B0 0), (5, vI r7), (35, vB g16)] j) a ∧ Fit z (sepL (ob90 B0 p0 :: ob102 B1 S9 caq11 ccq12 caq13 ccq14 :: ro2 caq11 ccq12 S9.cell :: ro111 caq13 ccq14 S9.log :: L)) w) ?_ ?_
  ·
   refine wp_region_lit ?_
   refine oo [24, 25, 26] [vI r7, vB (decide (r7 ≥ 1)), vB (decide (r7 ≥ 1))] hr fun a hr => ?_
   by_cases c19 : r7 ≥ 1
   ·
    replace H := ifT c19 H
    refine onl (decide_eq_true c19) [27, 28, 29, 30, 31, 32] [vI r7, pA B0 0, pA B0 0, pA B0 0, pA B0 0, pA B0 1] hr fun a hr => ?_
    refine ld (wgt hr (decide_eq_true c19)) hr (vI p0.head_t_Frames) ((h.pick 3).cell 1 rfl) fun a hr => ?_
    refine onl (decide_eq_true c19) [34] [vB (decide (r7 ≤ p0.head_t_Frames))] hr fun a hr => ?_
    refine opv (wn rfl) hr (vB (decide (r7 ≤ p0.head_t_Frames))) (rp_t (b := (decide (r7 ≥ 1))) rfl (by kernel_rfl) (decide_eq_true c19) (by kernel_rfl)) fun a hr => ?_
    refine ln ?_
    exact ⟨(), (decide (r7 ≤ p0.head_t_Frames)), sinj H, hr.fj (h.se 4 [3, 0, 1, 2])⟩
   ·
    replace H := ifF c19 H
    refine offl (decide_eq_false c19) [27, 28, 29, 30, 31, 32, 33, 34] hr fun a hr => ?_
    refine opv (wn rfl) hr (vB false) (rp_f (b := (decide (r7 ≥ 1))) rfl (by kernel_rfl) (decide_eq_false c19) (by kernel_rfl)) fun a hr => ?_
    refine ln ?_
    exact ⟨(), false, sinj H, hr.fj (h.se 4 [3, 0, 1, 2])⟩
  clear h hr a; rintro _ a w ⟨g16, rfl, j, hr, h⟩
  replace H := kk1 hK17
  refine cV hr H (fun c20 H => ?_) fun c20 H => ?_
  ·
   refine wp_region_lit ?_
   obtain ⟨S21, e22, H⟩ := bd1 H
   refine oo [36, 37, 38, 39, 40] [pA B0 0, pA B0 0, pA B0 0, vI r7, vI (wi (r7 - 1))] hr fun a hr => ?_
   have hc := frames_head_end_ok (H := e22) (h := h)
   refine cl (wn rfl) hr hc ?_; clear hc h
   rintro _ w ⟨rfl, h⟩; refine ⟨_, rfl, fun a hr => ?_⟩
   refine ln ?_
   refine sr ?_
   refine o1 hr (vI 0) fun a hr => ?_
   refine ln ?_
   refine wp_ret ?_
   refine end_ret1 (v := vI 0) rfl hr (by kernel_rfl) ?_
   obtain ⟨rfl, rfl, rfl⟩ := ej3 H
   exact ⟨caq11, ccq12, caq13, ccq14, rfl, h⟩
  ·
   refine wp_region_lit ?_
   obtain ⟨S23, e24, H⟩ := bd1 H
   refine oo [42, 43, 44] [pA B0 0, pA B0 0, pA B0 0] hr fun a hr => ?_
   have hc := frames_head_end_ok (H := e24) (h := h)
   refine cl (wn rfl) hr hc ?_; clear hc h
   rintro _ w ⟨rfl, h⟩; refine ⟨_, rfl, fun a hr => ?_⟩
   refine ln ?_
   refine sr ?_
   refine o1 hr (vI 0) fun a hr => ?_
   refine ln ?_
   refine wp_ret ?_
   refine end_ret1 (v := vI 0) rfl hr (by kernel_rfl) ?_
   obtain ⟨rfl, rfl, rfl⟩ := ej3 H
   exact ⟨caq11, ccq12, caq13, ccq14, rfl, h⟩
 ·
  refine sr ?_
  refine oo [23, 4] [vI r8, vI r8] hr fun a hr => ?_
  refine ln ?_
  refine wp_ret ?_
  refine then_ret ?_
  refine end_ret1 (v := vI r8) rfl hr (by kernel_rfl) ?_
  obtain ⟨rfl, rfl, rfl⟩ := ej3 H
  exact ⟨caq11, ccq12, caq13, ccq14, rfl, h.se 4 [3, 0, 1, 2]⟩

/-- (*plunder/frames.Op).fork -/
def frames_Op_fork_iface (p0 : T_frames_Op) (p1 : T_cells_Arena) : Option (Int × T_frames_Op × T_cells_Arena) :=
  ob1 (frames_Table__join (⟨p0.head_t_Base, p0.head_t_Frames⟩ : T_frames_Table) p0.head_frame) (fun r5 => ob3 (cells_Arena_Add p1 r5 1) (fun r7 r8 S9 => (if r8 = 0 then ob1 (frames_head_end p0 9 r7) (fun S16 => some (r8, S16, S9)) else some (r8, p0, S9))))

theorem frames_Op_fork_iface_ok {z w : World} {L : List HProp} {p0 q0 : T_frames_Op} {p1 q1 : T_cells_Arena} {B0 B1 cc2 cc4 : Nat} {ca1 ca3 : Option Addr} {r0 : Int} (H : frames_Op_fork_iface p0 p1 = some (r0, q0, q1)) (h : Fit z (sepL (ob90 B0 p0 :: ob102 B1 p1 ca1 cc2 ca3 cc4 :: ro2 ca1 cc2 p1.cell :: ro111 ca3 cc4 p1.log :: L)) w)  :
    Calls Tryd.prog 66 #[pA B0 0, .iface 37 (pA B1 0)] w fun e w => ∃ caq1_1 ccq1_2 caq1_3 ccq1_4, e = .returned (vI r0) ∧ Fit z (sepL (ob90 B0 q0 :: ob102 B1 q1 caq1_1 ccq1_2 caq1_3 ccq1_4 :: ro2 caq1_1 ccq1_2 q1.cell :: ro111 caq1_3 ccq1_4 q1.log :: L)) w := by
 unfold frames_Op_fork_iface at H
 refine enter Tryd.func66 rfl 34 rfl rfl [(0, pA B0 0), (1, .iface 37 (pA B1 0))] ⟨rfl, rfl, trivial⟩ ?_
 intro j a hr
 refine sr ?_
 refine o1 hr (vI 0) fun a hr => ?_
 refine ln ?_
 refine wp_seq ?_
 obtain ⟨r5, e6, H⟩ := bd1 H
 obtain ⟨r7, r8, S9, e10, H⟩ := bd3 H
 refine regL [(B0, 0, [vI p0.head_t_Base, vI p0.head_t_Frames]), (B0, 2, [vI p0.head_frame])] [2, 3, 4, 7, 8, 9, 11, 12, 13] 21 h (fun h => ⟨(h.held 0 rfl), ⟨h.cell 2 rfl, trivial⟩, trivial⟩) fun w h hd => ?_
 refine evs' hd 9 [(0, 8, .iface 37 (pA B1 0)), (1, 9, pA B0 0), (2, 10, pA B0 0), (3, 11, pA B0 0), (4, 12, pA B0 0), (6, 14, pA B0 0), (7, 15, pA B0 0), (8, 16, pA B0 0), (9, 17, pA B0 2), (12, 20, .func (.method "Add") #[.iface 37 (pA B1 0)] #[]), (13, 21, .func (.method "Add") #[.iface 37 (pA B1 0)] #[]), (14, 22, .iface 37 (pA B1 0))] hr fun a hr => ?_
 refine elm hd 0 8 5 hr (wn rfl) rfl rfl fun a hr => ?_
 refine elx hd 1 7 10 hr (wn rfl) rfl rfl fun a hr => ?_
 refine eo1 11 rfl ?_
 have hc := frames_Table__join_ok (H := e6) (h := h)
 refine cl (wn rfl) hr hc ?_; clear hc h
 rintro _ w ⟨rfl, h⟩; refine ⟨_, rfl, fun a hr => ?_⟩
 refine ln ?_
 refine eE ⟨(h.held 0 rfl), ⟨h.cell 2 rfl, trivial⟩, trivial⟩ fun hd => ?_
 refine eo1 15 rfl ?_
 replace h := h.m3.m3.m3
 have hc := cells_Arena_Add_ok (H := e10) (h := h)
 refine cl (wn rfl) hr hc ?_; clear hc h
 rintro _ w ⟨caq11, ccq12, caq13, ccq14, rfl, h⟩; refine ⟨_, rfl, fun a hr => ?_⟩
 refine ln ?_
 refine xE ?_
 refine evs 4 16 rfl (wn rfl) hr (.tuple #[vI r7, vI r8]) fun a hr => ?_
 refine evs 3 17 rfl (wn rfl) hr (vI r7) fun a hr => ?_
 refine evs 2 18 rfl (wn rfl) hr (vI r8) fun a hr => ?_
 refine evs 1 19 rfl (wn rfl) hr (vI r7) fun a hr => ?_
 refine evs 0 20 rfl (wn rfl) hr (vI r8) fun a hr => ?_
 refine een ?_
 refine then_normal ?_
 refine wp_seq ?_
 refine sr ?_
 refine oo [26, 27] [vI r8, vB (r8 == 0)] hr fun a hr => ?_
 refine ln ?_
 refine cD hr H (fun c15 H => ?_) fun c15 H => ?_
 ·
  refine wp_region_lit ?_
  obtain ⟨S16, e17, H⟩ := bd1 H
  refine oo [28, 29, 30, 31] [pA B0 0, pA B0 0, pA B0 0, vI r7] hr fun a hr => ?_
  replace h := h.m3
  have hc := frames_head_end_ok (H := e17) (h := h)
  refine cl (wn rfl) hr hc ?_; clear hc h
  rintro _ w ⟨rfl, h⟩; refine ⟨_, rfl, fun a hr => ?_⟩
  refine ln ?_
  refine sr ?_
  refine oo [33, 4] [vI r8, vI r8] hr fun a hr => ?_
  refine ln ?_
  refine wp_ret ?_
  refine end_ret1 (v := vI r8) rfl hr (by kernel_rfl) ?_
  obtain ⟨rfl, rfl, rfl⟩ := ej3 H
  exact ⟨caq11, ccq12, caq13, ccq14, rfl, h⟩
 ·
  refine wp_skip ?_
  refine then_normal ?_
  refine sr ?_
  refine oo [33, 4] [vI r8, vI r8] hr fun a hr => ?_
  refine ln ?_
  refine wp_ret ?_
  refine end_ret1 (v := vI r8) rfl hr (by kernel_rfl) ?_
  obtain ⟨rfl, rfl, rfl⟩ := ej3 H
  exact ⟨caq11, ccq12, caq13, ccq14, rfl, h.se 4 [3, 0, 1, 2]⟩

/-- (plunder/frames.Table).slot -/
def frames_Table__slot (p0 : T_frames_Table) (p1 : Int) (p2 : Int) : Option (Int) :=
  ob1 (frames_Table__join p0 p1) (fun r2 => some (wi ((wi (r2 + 2)) + p2)))

theorem frames_Table__slot_ok {z w : World} {L : List HProp} {p0 : T_frames_Table} {p1 p2 r0 : Int} (H : frames_Table__slot p0 p1 p2 = some r0) (h : Fit z (sepL (L)) w)  :
    Calls Tryd.prog 78 #[ag_T_frames_Table p0, vI p1, vI p2] w fun e w => e = .returned (vI r0) ∧ Fit z (sepL (L)) w := by
 unfold frames_Table__slot at H
 refine enter Tryd.func78 rfl 13 rfl rfl [(0, ag_T_frames_Table p0), (1, vI p1), (2, vI p2)] ⟨rfl, rfl, rfl, trivial⟩ ?_
 intro j a hr
 refine sr ?_
 refine onew (wn rfl) hr h nb (ca_T_frames_Table p0) 67 fun b1 w a h hr => ?_
 refine o1 hr (vI 0) fun a hr => ?_
 refine ln ?_
 refine sr ?_
 refine ldm (wn rfl) hr (ag_T_frames_Table p0) (cs := cl_T_frames_Table p0) (h.held 0 rfl) fun a hr => ?_
 obtain ⟨r2, e3, H⟩ := bd1 H
 refine o1 hr (vI p1) fun a hr => ?_
 have hc := frames_Table__join_ok (H := e3) (h := h)
 refine cl (wn rfl) hr hc ?_; clear hc h
 rintro _ w ⟨rfl, h⟩; refine ⟨_, rfl, fun a hr => ?_⟩
 refine oo [10, 11, 12, 6] [vI (wi (r2 + 2)), vI p2, vI (wi ((wi (r2 + 2)) + p2)), vI (wi ((wi (r2 + 2)) + p2))] hr fun a hr => ?_
 refine ln ?_
 refine wp_ret ?_
 refine end_ret1 (v := vI (wi ((wi (r2 + 2)) + p2))) rfl hr (by kernel_rfl) ?_
 replace H := ej1 H; subst H
 exact ⟨rfl, h.se 1 []⟩

/-- (*plunder/frames.Op).less -/
def frames_Op_less_iface (p0 : T_frames_Op) (p1 : T_cells_Arena) (p2 : Int) : Option (Int × T_frames_Op × T_cells_Arena) :=
  ob1 (frames_Table__join (⟨p0.head_t_Base, p0.head_t_Frames⟩ : T_frames_Table) p0.head_frame) (fun r5 => ob3 (cells_Arena_Add p1 r5 (-1)) (fun r7 r8 S9 => (if r8 = 0 then (if r7 = 0 then some (r8, p0, S9) else ob1 (frames_head_end p0 p2 r7) (fun S17 => some (r8, S17, S9))) else some (r8, p0, S9))))

theorem frames_Op_less_iface_ok {z w : World} {L : List HProp} {p0 q0 : T_frames_Op} {p1 q1 : T_cells_Arena} {p2 r0 : Int} {B0 B1 cc2 cc4 : Nat} {ca1 ca3 : Option Addr} (H : frames_Op_less_iface p0 p1 p2 = some (r0, q0, q1)) (h : Fit z (sepL (ob90 B0 p0 :: ob102 B1 p1 ca1 cc2 ca3 cc4 :: ro2 ca1 cc2 p1.cell :: ro111 ca3 cc4 p1.log :: L)) w)  :
    Calls Tryd.prog 79 #[pA B0 0, .iface 37 (pA B1 0), vI p2] w fun e w => ∃ caq1_1 ccq1_2 caq1_3 ccq1_4, e = .returned (vI r0) ∧ Fit z (sepL (ob90 B0 q0 :: ob102 B1 q1 caq1_1 ccq1_2 caq1_3 ccq1_4 :: ro2 caq1_1 ccq1_2 q1.cell :: ro111 caq1_3 ccq1_4 q1.log :: L)) w := by
 unfold frames_Op_less_iface at H
 refine enter Tryd.func79 rfl 41 rfl rfl [(0, pA B0 0), (1, .iface 37 (pA B1 0)), (2, vI p2)] ⟨rfl, rfl, rfl, trivial⟩ ?_
 intro j a hr
 refine sr ?_
 refine o1 hr (vI 0) fun a hr => ?_
 refine ln ?_
 refine wp_seq ?_
 obtain ⟨r5, e6, H⟩ := bd1 H
 obtain ⟨r7, r8, S9, e10, H⟩ := bd3 H
 refine regL [(B0, 0, [vI p0.head_t_Base, vI p0.head_t_Frames]), (B0, 2, [vI p0.head_frame])] [2, 3, 4, 7, 8, 9, 11, 12, 13] 21 h (fun h => ⟨(h.held 0 rfl), ⟨h.cell 2 rfl, trivial⟩, trivial⟩) fun w h hd => ?_
 refine evs' hd 9 [(0, 10, .iface 37 (pA B1 0)), (1, 11, pA B0 0), (2, 12, pA B0 0), (3, 13, pA B0 0), (4, 14, pA B0 0), (6, 16, pA B0 0), (7, 17, pA B0 0), (8, 18, pA B0 0), (9, 19, pA B0 2), (12, 22, .func (.method "Add") #[.iface 37 (pA B1 0)] #[]), (13, 23, .func (.method "Add") #[.iface 37 (pA B1 0)] #[]), (14, 24, .iface 37 (pA B1 0))] hr fun a hr => ?_
 refine elm hd 0 8 5 hr (wn rfl) rfl rfl fun a hr => ?_
 refine elx hd 1 7 10 hr (wn rfl) rfl rfl fun a hr => ?_
 refine eo1 11 rfl ?_
 have hc := frames_Table__join_ok (H := e6) (h := h)
 refine cl (wn rfl) hr hc ?_; clear hc h
 rintro _ w ⟨rfl, h⟩; refine ⟨_, rfl, fun a hr => ?_⟩
 refine ln ?_
 refine eE ⟨(h.held 0 rfl), ⟨h.cell 2 rfl, trivial⟩, trivial⟩ fun hd => ?_
 refine eo1 15 rfl ?_
 replace h := h.m3.m3.m3
 have hc := cells_Arena_Add_ok (H := e10) (h := h)
 refine cl (wn rfl) hr hc ?_; clear hc h
 rintro _ w ⟨caq11, ccq12, caq13, ccq14, rfl, h⟩; refine ⟨_, rfl, fun a hr => ?_⟩
 refine ln ?_
 refine xE ?_
 refine evs 4 16 rfl (wn rfl) hr (.tuple #[vI r7, vI r8]) fun a hr => ?_
 refine evs 3 17 rfl (wn rfl) hr (vI r7) fun a hr => ?_
 refine evs 2 18 rfl (wn rfl) hr (vI r8) fun a hr => ?_
 refine evs 1 19 rfl (wn rfl) hr (vI r7) fun a hr => ?_
 refine evs 0 20 rfl (wn rfl) hr (vI r8) fun a hr => ?_
 refine een ?_
 refine then_normal ?_
 refine wp_seq ?_
 refine sr ?_
 refine oo [28, 29, 30] [vI r8, vB (r8 == 0), vB (r8 == 0)] hr fun a hr => ?_
 by_cases c15 : r8 = 0
 ·
  replace H := ifT c15 H
  refine onl (beq_iff_eq.mpr c15) [31, 32] [vI r7, vB (r7 != 0)] hr fun a hr => ?_
  refine opv (wn rfl) hr (vB (r7 != 0)) (rp_t (b := (r8 == 0)) rfl (by kernel_rfl) (beq_iff_eq.mpr c15) (by kernel_rfl)) fun a hr => ?_
  refine ln ?_
  refine cN hr H (fun c16 H => ?_) fun c16 H => ?_
  ·
   refine wp_skip ?_
   refine then_normal ?_
   refine sr ?_
   refine oo [40, 6] [vI r8, vI r8] hr fun a hr => ?_
   refine ln ?_
   refine wp_ret ?_
   refine end_ret1 (v := vI r8) rfl hr (by kernel_rfl) ?_
   obtain ⟨rfl, rfl, rfl⟩ := ej3 H
   exact ⟨caq11, ccq12, caq13, ccq14, rfl, h.se 4 [3, 0, 1, 2]⟩
  ·
   refine wp_region_lit ?_
   obtain ⟨S17, e18, H⟩ := bd1 H
   refine oo [34, 35, 36, 37, 38] [pA B0 0, pA B0 0, pA B0 0, vI p2, vI r7] hr fun a hr => ?_
   replace h := h.m3
   have hc := frames_head_end_ok (H := e18) (h := h)
   refine cl (wn rfl) hr hc ?_; clear hc h
   rintro _ w ⟨rfl, h⟩; refine ⟨_, rfl, fun a hr => ?_⟩
   refine ln ?_
   refine sr ?_
   refine oo [40, 6] [vI r8, vI r8] hr fun a hr => ?_
   refine ln ?_
   refine wp_ret ?_
   refine end_ret1 (v := vI r8) rfl hr (by kernel_rfl) ?_
   obtain ⟨rfl, rfl, rfl⟩ := ej3 H
   exact ⟨caq11, ccq12, caq13, ccq14, rfl, h⟩
 ·
  replace H := ifF c15 H
  refine offl (beq_eq_false_iff_ne.mpr c15) [31, 32] hr fun a hr => ?_
  refine opv (wn rfl) hr (vB false) (rp_f (b := (r8 == 0)) rfl (by kernel_rfl) (beq_eq_false_iff_ne.mpr c15) (by kernel_rfl)) fun a hr => ?_
  refine ln ?_
  refine cond_ff hr (b := false) rfl ?_
  refine wp_skip ?_
  refine then_normal ?_
  refine sr ?_
  refine oo [40, 6] [vI r8, vI r8] hr fun a hr => ?_
  refine ln ?_
  refine wp_ret ?_
  refine end_ret1 (v := vI r8) rfl hr (by kernel_rfl) ?_
  obtain ⟨rfl, rfl, rfl⟩ := ej3 H
  exact ⟨caq11, ccq12, caq13, ccq14, rfl, h.se 4 [3, 0, 1, 2]⟩

/-- (*plunder/frames.Op).again -/
def frames_Op_again_iface (p0 : T_frames_Op) (p1 : T_cells_Arena) (p2 : Int) : Option (Int × T_frames_Op × T_cells_Arena) :=
  ob1 (frames_Table__join (⟨p0.head_t_Base, p0.head_t_Frames⟩ : T_frames_Table) p0.head_frame) (fun r5 => ob2 (cells_Arena_Store p1 r5 1) (fun r7 S8 => (if r7 = 0 then ob1 (frames_head_end p0 p2 0) (fun S15 => some (r7, S15, S8)) else some (r7, p0, S8))))

theorem frames_Op_again_iface_ok {z w : World} {L : List HProp} {p0 q0 : T_frames_Op} {p1 q1 : T_cells_Arena} {p2 r0 : Int} {B0 B1 cc2 cc4 : Nat} {ca1 ca3 : Option Addr} (H : frames_Op_again_iface p0 p1 p2 = some (r0, q0, q1)) (h : Fit z (sepL (ob90 B0 p0 :: ob102 B1 p1 ca1 cc2 ca3 cc4 :: ro2 ca1 cc2 p1.cell :: ro111 ca3 cc4 p1.log :: L)) w)  :
    Calls Tryd.prog 80 #[pA B0 0, .iface 37 (pA B1 0), vI p2] w fun e w => ∃ caq1_1 ccq1_2 caq1_3 ccq1_4, e = .returned (vI r0) ∧ Fit z (sepL (ob90 B0 q0 :: ob102 B1 q1 caq1_1 ccq1_2 caq1_3 ccq1_4 :: ro2 caq1_1 ccq1_2 q1.cell :: ro111 caq1_3 ccq1_4 q1.log :: L)) w := by
 unfold frames_Op_again_iface at H
 refine enter Tryd.func80 rfl 32 rfl rfl [(0, pA B0 0), (1, .iface 37 (pA B1 0)), (2, vI p2)] ⟨rfl, rfl, rfl, trivial⟩ ?_
 intro j a hr
 refine sr ?_
 refine o1 hr (vI 0) fun a hr => ?_
 refine ln ?_
 refine wp_seq ?_
 obtain ⟨r5, e6, H⟩ := bd1 H
 obtain ⟨r7, S8, e9, H⟩ := bd2 H
 refine regL [(B0, 0, [vI p0.head_t_Base, vI p0.head_t_Frames]), (B0, 2, [vI p0.head_frame])] [2, 3, 4, 7, 8, 9, 11, 12, 13] 17 h (fun h => ⟨(h.held 0 rfl), ⟨h.cell 2 rfl, trivial⟩, trivial⟩) fun w h hd => ?_
 refine evs' hd 5 [(0, 8, .iface 37 (pA B1 0)), (1, 9, pA B0 0), (2, 10, pA B0 0), (3, 11, pA B0 0), (4, 12, pA B0 0), (6, 14, pA B0 0), (7, 15, pA B0 0), (8, 16, pA B0 0), (9, 17, pA B0 2), (12, 20, .func (.method "Store") #[.iface 37 (pA B1 0)] #[]), (13, 21, .func (.method "Store") #[.iface 37 (pA B1 0)] #[]), (14, 22, .iface 37 (pA B1 0))] hr fun a hr => ?_
 refine elm hd 0 4 5 hr (wn rfl) rfl rfl fun a hr => ?_
 refine elx hd 1 3 10 hr (wn rfl) rfl rfl fun a hr => ?_
 refine eo1 11 rfl ?_
 have hc := frames_Table__join_ok (H := e6) (h := h)
 refine cl (wn rfl) hr hc ?_; clear hc h
 rintro _ w ⟨rfl, h⟩; refine ⟨_, rfl, fun a hr => ?_⟩
 refine ln ?_
 refine eE ⟨(h.held 0 rfl), ⟨h.cell 2 rfl, trivial⟩, trivial⟩ fun hd => ?_
 refine eo1 15 rfl ?_
 replace h := h.m3.m3.m3
 have hc := cells_Arena_Store_ok (H := e9) (h := h)
 refine cl (wn rfl) hr hc ?_; clear hc h
 rintro _ w ⟨caq10, ccq11, caq12, ccq13, rfl, h⟩; refine ⟨_, rfl, fun a hr => ?_⟩
 refine ln ?_
 refine xE ?_
 refine evs 0 16 rfl (wn rfl) hr (vI r7) fun a hr => ?_
 refine een ?_
 refine then_normal ?_
 refine wp_seq ?_
 refine sr ?_
 refine oo [24, 25] [vI r7, vB (r7 == 0)] hr fun a hr => ?_
 refine ln ?_
 refine cD hr H (fun c14 H => ?_) fun c14 H => ?_
 ·
  refine wp_region_lit ?_
  obtain ⟨S15, e16, H⟩ := bd1 H
  refine oo [26, 27, 28, 29] [pA B0 0, pA B0 0, pA B0 0, vI p2] hr fun a hr => ?_
  replace h := h.m3
  have hc := frames_head_end_ok (H := e16) (h := h)
  refine cl (wn rfl) hr hc ?_; clear hc h
  rintro _ w ⟨rfl, h⟩; refine ⟨_, rfl, fun a hr => ?_⟩
  refine ln ?_
  refine sr ?_
  refine oo [31, 6] [vI r7, vI r7] hr fun a hr => ?_
  refine ln ?_
  refine wp_ret ?_
  refine end_ret1 (v := vI r7) rfl hr (by kernel_rfl) ?_
  obtain ⟨rfl, rfl, rfl⟩ := ej3 H
  exact ⟨caq10, ccq11, caq12, ccq13, rfl, h⟩
 ·
  refine wp_skip ?_
  refine then_normal ?_
  refine sr ?_
  refine oo [31, 6] [vI r7, vI r7] hr fun a hr => ?_
  refine ln ?_
  refine wp_ret ?_
  refine end_ret1 (v := vI r7) rfl hr (by kernel_rfl) ?_
  obtain ⟨rfl, rfl, rfl⟩ := ej3 H
  exact ⟨caq10, ccq11, caq12, ccq13, rfl, h.se 4 [3, 0, 1, 2]⟩

/-- (*plunder/frames.Op).finish -/
def frames_Op_finish_iface (p0 : T_frames_Op) (p1 : T_cells_Arena) : Option (Int × T_frames_Op × T_cells_Arena) :=
  (if p0.head_stands = 1 then ob1 (frames_Table__slot (⟨p0.head_t_Base, p0.head_t_Frames⟩ : T_frames_Table) p0.head_frame p0.slot) (fun r6 => ob2 (cells_Arena_Store p1 r6 p0.give) (fun r8 S9 => some (r8, p0, S9))) else (if p0.head_stands = 2 then ob3 (frames_Op_less_iface p0 p1 10) (fun r16 S17 S18 => some (r16, S17, S18)) else ob3 (frames_Op_again_iface p0 p1 11) (fun r24 S25 S26 => some (r24, S25, S26))))

theorem frames_Op_finish_iface_ok {z w : World} {L : List HProp} {p0 q0 : T_frames_Op} {p1 q1 : T_cells_Arena} {B0 B1 cc2 cc4 : Nat} {ca1 ca3 : Option Addr} {r0 : Int} (H : frames_Op_finish_iface p0 p1 = some (r0, q0, q1)) (h : Fit z (sepL (ob90 B0 p0 :: ob102 B1 p1 ca1 cc2 ca3 cc4 :: ro2 ca1 cc2 p1.cell :: ro111 ca3 cc4 p1.log :: L)) w)  :
    Calls Tryd.prog 67 #[pA B0 0, .iface 37 (pA B1 0)] w fun e w => ∃ caq1_1 ccq1_2 caq1_3 ccq1_4, e = .returned (vI r0) ∧ Fit z (sepL (ob90 B0 q0 :: ob102 B1 q1 caq1_1 ccq1_2 caq1_3 ccq1_4 :: ro2 caq1_1 ccq1_2 q1.cell :: ro111 caq1_3 ccq1_4 q1.log :: L)) w := by
 unfold frames_Op_finish_iface at H
 refine enter Tryd.func67 rfl 44 rfl rfl [(0, pA B0 0), (1, .iface 37 (pA B1 0))] ⟨rfl, rfl, trivial⟩ ?_
 intro j a hr
 refine sr ?_
 refine o1 hr (vI 0) fun a hr => ?_
 refine ln ?_
 refine wp_seq ?_
 refine sr ?_
 refine oo [5, 6, 7, 8] [pA B0 0, pA B0 0, pA B0 0, pA B0 3] hr fun a hr => ?_
 refine ld (wn rfl) hr (vI p0.head_stands) (h.cell 3 rfl) fun a hr => ?_
 refine ln ?_
 refine wp_block ?_
 refine sr ?_
 refine oo [11, 10] [vB (p0.head_stands == 1), vB (p0.head_stands == 1)] hr fun a hr => ?_
 refine ln ?_
 refine cD hr H (fun c5 H => ?_) fun c5 H => ?_
 ·
  refine wp_seq ?_
  obtain ⟨r6, e7, H⟩ := bd1 H
  obtain ⟨r8, S9, e10, H⟩ := bd2 H
  refine regL [(B0, 0, [vI p0.head_t_Base, vI p0.head_t_Frames]), (B0, 2, [vI p0.head_frame]), (B0, 7, [vI p0.slot]), (B0, 8, [vI p0.give])] [2, 3, 4, 7, 8, 9, 12, 13, 15, 17, 18, 20, 21] 25 h (fun h => ⟨(h.held 0 rfl), ⟨h.cell 2 rfl, trivial⟩, ⟨h.cell 7 rfl, trivial⟩, ⟨h.cell 8 rfl, trivial⟩, trivial⟩) fun w h hd => ?_
  refine evs' hd 7 [(0, 12, .iface 37 (pA B1 0)), (1, 13, pA B0 0), (2, 14, pA B0 0), (3, 15, pA B0 0), (4, 16, pA B0 0), (6, 18, pA B0 0), (7, 19, pA B0 0), (8, 20, pA B0 0), (9, 21, pA B0 2), (11, 23, pA B0 0), (12, 24, pA B0 0), (13, 25, pA B0 7), (16, 28, pA B0 0), (17, 29, pA B0 0), (18, 30, pA B0 8), (20, 32, .func (.method "Store") #[.iface 37 (pA B1 0)] #[]), (21, 33, .func (.method "Store") #[.iface 37 (pA B1 0)] #[]), (22, 34, .iface 37 (pA B1 0))] hr fun a hr => ?_
  refine elm hd 0 6 5 hr (wn rfl) rfl rfl fun a hr => ?_
  refine elx hd 1 5 10 hr (wn rfl) rfl rfl fun a hr => ?_
  refine elx hd 2 4 14 hr (wn rfl) rfl rfl fun a hr => ?_
  refine elx hd 3 3 19 hr (wn rfl) rfl rfl fun a hr => ?_
  refine eo1 15 rfl ?_
  have hc := frames_Table__slot_ok (H := e7) (h := h)
  refine cl (wn rfl) hr hc ?_; clear hc h
  rintro _ w ⟨rfl, h⟩; refine ⟨_, rfl, fun a hr => ?_⟩
  refine ln ?_
  refine eE ⟨(h.held 0 rfl), ⟨h.cell 2 rfl, trivial⟩, ⟨h.cell 7 rfl, trivial⟩, ⟨h.cell 8 rfl, trivial⟩, trivial⟩ fun hd => ?_
  refine eo1 23 rfl ?_
  replace h := h.m3.m3.m3
  have hc := cells_Arena_Store_ok (H := e10) (h := h)
  refine cl (wn rfl) hr hc ?_; clear hc h
  rintro _ w ⟨caq11, ccq12, caq13, ccq14, rfl, h⟩; refine ⟨_, rfl, fun a hr => ?_⟩
  refine ln ?_
  refine xE ?_
  refine evs 0 24 rfl (wn rfl) hr (vI r8) fun a hr => ?_
  refine een ?_
  refine then_normal ?_
  refine wp_ret ?_
  refine blk_ret ?_
  refine then_ret ?_
  refine end_ret1 (v := vI r8) rfl hr (by kernel_rfl) ?_
  obtain ⟨rfl, rfl, rfl⟩ := ej3 H
  exact ⟨caq11, ccq12, caq13, ccq14, rfl, h.se 4 [3, 0, 1, 2]⟩
 ·
  refine sr ?_
  refine oo [37, 36] [vB (p0.head_stands == 2), vB (p0.head_stands == 2)] hr fun a hr => ?_
  refine ln ?_
  refine cD hr H (fun c15 H => ?_) fun c15 H => ?_
  ·
   refine sr ?_
   obtain ⟨r16, S17, S18, e19, H⟩ := bd3 H
   refine oo [38, 39] [pA B0 0, .iface 37 (pA B1 0)] hr fun a hr => ?_
   have hc := frames_Op_less_iface_ok (H := e19) (h := h)
   refine cl (wn rfl) hr hc ?_; clear hc h
   rintro _ w ⟨caq20, ccq21, caq22, ccq23, rfl, h⟩; refine ⟨_, rfl, fun a hr => ?_⟩
   refine o1 hr (vI r16) fun a hr => ?_
   refine ln ?_
   refine wp_ret ?_
   refine blk_ret ?_
   refine then_ret ?_
   refine end_ret1 (v := vI r16) rfl hr (by kernel_rfl) ?_
   obtain ⟨rfl, rfl, rfl⟩ := ej3 H
   exact ⟨caq20, ccq21, caq22, ccq23, rfl, h⟩
  ·
   refine wp_skip ?_
   refine blk_normal ?_
   refine then_normal ?_
   refine sr ?_
   obtain ⟨r24, S25, S26, e27, H⟩ := bd3 H
   refine oo [41, 42] [pA B0 0, .iface 37 (pA B1 0)] hr fun a hr => ?_
   have hc := frames_Op_again_iface_ok (H := e27) (h := h)
   refine cl (wn rfl) hr hc ?_; clear hc h
   rintro _ w ⟨caq28, ccq29, caq30, ccq31, rfl, h⟩; refine ⟨_, rfl, fun a hr => ?_⟩
   refine o1 hr (vI r24) fun a hr => ?_
   refine ln ?_
   refine wp_ret ?_
   refine end_ret1 (v := vI r24) rfl hr (by kernel_rfl) ?_
   obtain ⟨rfl, rfl, rfl⟩ := ej3 H
   exact ⟨caq28, ccq29, caq30, ccq31, rfl, h⟩

/-- (*plunder/frames.Op).sync -/
def frames_Op_sync_iface (p0 : T_frames_Op) (p1 : T_cells_Arena) : Option (Int × T_frames_Op × T_cells_Arena) :=
  (if p0.head_stands = 1 then ob3 (frames_Op_less_iface p0 p1 12) (fun r6 S7 S8 => some (r6, S7, S8)) else ob3 (frames_Op_again_iface p0 p1 13) (fun r14 S15 S16 => some (r14, S15, S16)))

theorem frames_Op_sync_iface_ok {z w : World} {L : List HProp} {p0 q0 : T_frames_Op} {p1 q1 : T_cells_Arena} {B0 B1 cc2 cc4 : Nat} {ca1 ca3 : Option Addr} {r0 : Int} (H : frames_Op_sync_iface p0 p1 = some (r0, q0, q1)) (h : Fit z (sepL (ob90 B0 p0 :: ob102 B1 p1 ca1 cc2 ca3 cc4 :: ro2 ca1 cc2 p1.cell :: ro111 ca3 cc4 p1.log :: L)) w)  :
    Calls Tryd.prog 68 #[pA B0 0, .iface 37 (pA B1 0)] w fun e w => ∃ caq1_1 ccq1_2 caq1_3 ccq1_4, e = .returned (vI r0) ∧ Fit z (sepL (ob90 B0 q0 :: ob102 B1 q1 caq1_1 ccq1_2 caq1_3 ccq1_4 :: ro2 caq1_1 ccq1_2 q1.cell :: ro111 caq1_3 ccq1_4 q1.log :: L)) w := by
 unfold frames_Op_sync_iface at H
 refine enter Tryd.func68 rfl 17 rfl rfl [(0, pA B0 0), (1, .iface 37 (pA B1 0))] ⟨rfl, rfl, trivial⟩ ?_
 intro j a hr
 refine sr ?_
 refine o1 hr (vI 0) fun a hr => ?_
 refine ln ?_
 refine wp_seq ?_
 refine sr ?_
 refine oo [5, 6, 7, 8] [pA B0 0, pA B0 0, pA B0 0, pA B0 3] hr fun a hr => ?_
 refine ld (wn rfl) hr (vI p0.head_stands) (h.cell 3 rfl) fun a hr => ?_
 refine o1 hr (vB (p0.head_stands == 1)) fun a hr => ?_
 refine ln ?_
 refine cD hr H (fun c5 H => ?_) fun c5 H => ?_
 ·
  refine sr ?_
  obtain ⟨r6, S7, S8, e9, H⟩ := bd3 H
  refine oo [11, 12] [pA B0 0, .iface 37 (pA B1 0)] hr fun a hr => ?_
  have hc := frames_Op_less_iface_ok (H := e9) (h := h)
  refine cl (wn rfl) hr hc ?_; clear hc h
  rintro _ w ⟨caq10, ccq11, caq12, ccq13, rfl, h⟩; refine ⟨_, rfl, fun a hr => ?_⟩
  refine o1 hr (vI r6) fun a hr => ?_
  refine ln ?_
  refine wp_ret ?_
  refine then_ret ?_
  refine end_ret1 (v := vI r6) rfl hr (by kernel_rfl) ?_
  obtain ⟨rfl, rfl, rfl⟩ := ej3 H
  exact ⟨caq10, ccq11, caq12, ccq13, rfl, h⟩
 ·
  refine wp_skip ?_
  refine then_normal ?_
  refine sr ?_
  obtain ⟨r14, S15, S16, e17, H⟩ := bd3 H
  refine oo [14, 15] [pA B0 0, .iface 37 (pA B1 0)] hr fun a hr => ?_
  have hc := frames_Op_again_iface_ok (H := e17) (h := h)
  refine cl (wn rfl) hr hc ?_; clear hc h
  rintro _ w ⟨caq18, ccq19, caq20, ccq21, rfl, h⟩; refine ⟨_, rfl, fun a hr => ?_⟩
  refine o1 hr (vI r14) fun a hr => ?_
  refine ln ?_
  refine wp_ret ?_
  refine end_ret1 (v := vI r14) rfl hr (by kernel_rfl) ?_
  obtain ⟨rfl, rfl, rfl⟩ := ej3 H
  exact ⟨caq18, ccq19, caq20, ccq21, rfl, h⟩

/-- (plunder/frames.Table).mark -/
def frames_Table__mark (p0 : T_frames_Table) (p1 : Int) : Option (Int) :=
  ob1 (frames_Table__join p0 p1) (fun r2 => some (wi (r2 + 1)))

theorem frames_Table__mark_ok {z w : World} {L : List HProp} {p0 : T_frames_Table} {p1 r0 : Int} (H : frames_Table__mark p0 p1 = some r0) (h : Fit z (sepL (L)) w)  :
    Calls Tryd.prog 81 #[ag_T_frames_Table p0, vI p1] w fun e w => e = .returned (vI r0) ∧ Fit z (sepL (L)) w := by
 unfold frames_Table__mark at H
 refine enter Tryd.func81 rfl 9 rfl rfl [(0, ag_T_frames_Table p0), (1, vI p1)] ⟨rfl, rfl, trivial⟩ ?_
 intro j a hr
 refine sr ?_
 refine onew (wn rfl) hr h nb (ca_T_frames_Table p0) 67 fun b1 w a h hr => ?_
 refine o1 hr (vI 0) fun a hr => ?_
 refine ln ?_
 refine sr ?_
 refine ldm (wn rfl) hr (ag_T_frames_Table p0) (cs := cl_T_frames_Table p0) (h.held 0 rfl) fun a hr => ?_
 obtain ⟨r2, e3, H⟩ := bd1 H
 refine o1 hr (vI p1) fun a hr => ?_
 have hc := frames_Table__join_ok (H := e3) (h := h)
 refine cl (wn rfl) hr hc ?_; clear hc h
 rintro _ w ⟨rfl, h⟩; refine ⟨_, rfl, fun a hr => ?_⟩
 refine oo [8, 4] [vI (wi (r2 + 1)), vI (wi (r2 + 1))] hr fun a hr => ?_
 refine ln ?_
 refine wp_ret ?_
 refine end_ret1 (v := vI (wi (r2 + 1))) rfl hr (by kernel_rfl) ?_
 replace H := ej1 H; subst H
 exact ⟨rfl, h.se 1 []⟩

/-- (*plunder/frames.Op).start -/
def frames_Op_start_iface (p0 : T_frames_Op) (p1 : T_cells_Arena) : Option (Int × T_frames_Op × T_cells_Arena) :=
  ob1 (frames_Table__mark (⟨p0.head_t_Base, p0.head_t_Frames⟩ : T_frames_Table) p0.head_frame) (fun r5 => ob3 (cells_Arena_Add p1 r5 1) (fun r7 r8 S9 => (if r8 = 0 then ob1 (frames_head_end p0 14 r7) (fun S16 => some (r8, S16, S9)) else some (r8, p0, S9))))

theorem frames_Op_start_iface_ok {z w : World} {L : List HProp} {p0 q0 : T_frames_Op} {p1 q1 : T_cells_Arena} {B0 B1 cc2 cc4 : Nat} {ca1 ca3 : Option Addr} {r0 : Int} (H : frames_Op_start_iface p0 p1 = some (r0, q0, q1)) (h : Fit z (sepL (ob90 B0 p0 :: ob102 B1 p1 ca1 cc2 ca3 cc4 :: ro2 ca1 cc2 p1.cell :: ro111 ca3 cc4 p1.log :: L)) w)  :
    Calls Tryd.prog 69 #[pA B0 0, .iface 37 (pA B1 0)] w fun e w => ∃ caq1_1 ccq1_2 caq1_3 ccq1_4, e = .returned (vI r0) ∧ Fit z (sepL (ob90 B0 q0 :: ob102 B1 q1 caq1_1 ccq1_2 caq1_3 ccq1_4 :: ro2 caq1_1 ccq1_2 q1.cell :: ro111 caq1_3 ccq1_4 q1.log :: L)) w := by
 unfold frames_Op_start_iface at H
 refine enter Tryd.func69 rfl 34 rfl rfl [(0, pA B0 0), (1, .iface 37 (pA B1 0))] ⟨rfl, rfl, trivial⟩ ?_
 intro j a hr
 refine sr ?_
 refine o1 hr (vI 0) fun a hr => ?_
 refine ln ?_
 refine wp_seq ?_
 obtain ⟨r5, e6, H⟩ := bd1 H
 obtain ⟨r7, r8, S9, e10, H⟩ := bd3 H
 refine regL [(B0, 0, [vI p0.head_t_Base, vI p0.head_t_Frames]), (B0, 2, [vI p0.head_frame])] [2, 3, 4, 7, 8, 9, 11, 12, 13] 21 h (fun h => ⟨(h.held 0 rfl), ⟨h.cell 2 rfl, trivial⟩, trivial⟩) fun w h hd => ?_
 refine evs' hd 9 [(0, 8, .iface 37 (pA B1 0)), (1, 9, pA B0 0), (2, 10, pA B0 0), (3, 11, pA B0 0), (4, 12, pA B0 0), (6, 14, pA B0 0), (7, 15, pA B0 0), (8, 16, pA B0 0), (9, 17, pA B0 2), (12, 20, .func (.method "Add") #[.iface 37 (pA B1 0)] #[]), (13, 21, .func (.method "Add") #[.iface 37 (pA B1 0)] #[]), (14, 22, .iface 37 (pA B1 0))] hr fun a hr => ?_
 refine elm hd 0 8 5 hr (wn rfl) rfl rfl fun a hr => ?_
 refine elx hd 1 7 10 hr (wn rfl) rfl rfl fun a hr => ?_
 refine eo1 11 rfl ?_
 have hc := frames_Table__mark_ok (H := e6) (h := h)
 refine cl (wn rfl) hr hc ?_; clear hc h
 rintro _ w ⟨rfl, h⟩; refine ⟨_, rfl, fun a hr => ?_⟩
 refine ln ?_
 refine eE ⟨(h.held 0 rfl), ⟨h.cell 2 rfl, trivial⟩, trivial⟩ fun hd => ?_
 refine eo1 15 rfl ?_
 replace h := h.m3.m3.m3
 have hc := cells_Arena_Add_ok (H := e10) (h := h)
 refine cl (wn rfl) hr hc ?_; clear hc h
 rintro _ w ⟨caq11, ccq12, caq13, ccq14, rfl, h⟩; refine ⟨_, rfl, fun a hr => ?_⟩
 refine ln ?_
 refine xE ?_
 refine evs 4 16 rfl (wn rfl) hr (.tuple #[vI r7, vI r8]) fun a hr => ?_
 refine evs 3 17 rfl (wn rfl) hr (vI r7) fun a hr => ?_
 refine evs 2 18 rfl (wn rfl) hr (vI r8) fun a hr => ?_
 refine evs 1 19 rfl (wn rfl) hr (vI r7) fun a hr => ?_
 refine evs 0 20 rfl (wn rfl) hr (vI r8) fun a hr => ?_
 refine een ?_
 refine then_normal ?_
 refine wp_seq ?_
 refine sr ?_
 refine oo [26, 27] [vI r8, vB (r8 == 0)] hr fun a hr => ?_
 refine ln ?_
 refine cD hr H (fun c15 H => ?_) fun c15 H => ?_
 ·
  refine wp_region_lit ?_
  obtain ⟨S16, e17, H⟩ := bd1 H
  refine oo [28, 29, 30, 31] [pA B0 0, pA B0 0, pA B0 0, vI r7] hr fun a hr => ?_
  replace h := h.m3
  have hc := frames_head_end_ok (H := e17) (h := h)
  refine cl (wn rfl) hr hc ?_; clear hc h
  rintro _ w ⟨rfl, h⟩; refine ⟨_, rfl, fun a hr => ?_⟩
  refine ln ?_
  refine sr ?_
  refine oo [33, 4] [vI r8, vI r8] hr fun a hr => ?_
  refine ln ?_
  refine wp_ret ?_
  refine end_ret1 (v := vI r8) rfl hr (by kernel_rfl) ?_
  obtain ⟨rfl, rfl, rfl⟩ := ej3 H
  exact ⟨caq11, ccq12, caq13, ccq14, rfl, h⟩
 ·
  refine wp_skip ?_
  refine then_normal ?_
  refine sr ?_
  refine oo [33, 4] [vI r8, vI r8] hr fun a hr => ?_
  refine ln ?_
  refine wp_ret ?_
  refine end_ret1 (v := vI r8) rfl hr (by kernel_rfl) ?_
  obtain ⟨rfl, rfl, rfl⟩ := ej3 H
  exact ⟨caq11, ccq12, caq13, ccq14, rfl, h.se 4 [3, 0, 1, 2]⟩

/-- (*plunder/cells.Arena).Load -/
def cells_Arena_Load (p0 : T_cells_Arena) (p1 : Int) : Option (Int × Int × T_cells_Arena) :=
  ob1 (cells_Arena_outside p0 p1) (fun r5 => (if r5 = true then some (0, 20, p0) else if inr_ p1 p0.cell.length then ob1 (cells_Arena_note p0 0 p1 (at_ p0.cell p1.toNat) 0 true) (fun S9 => some ((at_ p0.cell p1.toNat), 0, S9)) else none))

theorem cells_Arena_Load_ok {z w : World} {L : List HProp} {p0 q0 : T_cells_Arena} {p1 r0 r1 : Int} {B0 cc2 cc4 : Nat} {ca1 ca3 : Option Addr} (H : cells_Arena_Load p0 p1 = some (r0, r1, q0)) (h : Fit z (sepL (ob102 B0 p0 ca1 cc2 ca3 cc4 :: ro2 ca1 cc2 p0.cell :: ro111 ca3 cc4 p0.log :: L)) w)  :
    Calls Tryd.prog 100 #[pA B0 0, vI p1] w fun e w => ∃ caq0_1 ccq0_2 caq0_3 ccq0_4, e = .returned (.tuple #[vI r0, vI r1]) ∧ Fit z (sepL (ob102 B0 q0 caq0_1 ccq0_2 caq0_3 ccq0_4 :: ro2 caq0_1 ccq0_2 q0.cell :: ro111 caq0_3 ccq0_4 q0.log :: L)) w := by
 unfold cells_Arena_Load at H
 refine enter Tryd.func100 rfl 22 rfl rfl [(0, pA B0 0), (1, vI p1)] ⟨rfl, rfl, trivial⟩ ?_
 intro j a hr
 refine sr ?_
 refine oo [4, 5] [vI 0, vI 0] hr fun a hr => ?_
 refine ln ?_
 refine wp_seq ?_
 refine sr ?_
 obtain ⟨r5, e6, H⟩ := bd1 H
 refine oo [7, 8] [pA B0 0, vI p1] hr fun a hr => ?_
 have hc := cells_Arena_outside_ok (H := e6) (h := h)
 refine cl (wn rfl) hr hc ?_; clear hc h
 rintro _ w ⟨rfl, h⟩; refine ⟨_, rfl, fun a hr => ?_⟩
 refine ln ?_
 refine cV hr H (fun c7 H => ?_) fun c7 H => ?_
 ·
  refine sr ?_
  refine oo [4, 5] [vI 0, vI 20] hr fun a hr => ?_
  refine ln ?_
  refine wp_ret ?_
  refine then_ret ?_
  refine end_ret2 (v := vI 0) (v' := vI 20) rfl hr (by kernel_rfl) (by kernel_rfl) ?_
  obtain ⟨rfl, rfl, rfl⟩ := ej3 H
  exact ⟨ca1, cc2, ca3, cc4, rfl, h⟩
 ·
  refine wp_skip ?_
  refine then_normal ?_
  refine sr ?_
  refine oo [10, 11, 12] [pA B0 0, pA B0 0, pA B0 2] hr fun a hr => ?_
  refine ld (wn rfl) hr (.slice ca1 p0.cell.length cc2) (h.cell 2 rfl) fun a hr => ?_
  obtain ⟨c8, H⟩ := gd H
  refine o1 hr (vI p1) fun a hr => ?_
  refine opv (wn rfl) hr (pA (blk ca1) (p1.toNat * 1)) (ri_row (k := .i64) (E := 2) rfl (by kernel_rfl) (by kernel_rfl) (by kernel_rfl) (by kernel_rfl) (h.pick 1) c8) fun a hr => ?_
  refine ld (wn rfl) hr (vI (at_ p0.cell p1.toNat)) ((h.pick 1).row_cell encZ_i64_ok (f := 0) (at_ok c8) rfl) fun a hr => ?_
  refine o1 hr (vI (at_ p0.cell p1.toNat)) fun a hr => ?_
  refine ln ?_
  refine sr ?_
  obtain ⟨S9, e10, H⟩ := bd1 H
  refine oo [17, 18, 19] [pA B0 0, vI p1, vI (at_ p0.cell p1.toNat)] hr fun a hr => ?_
  have hc := cells_Arena_note_ok (H := e10) (h := h)
  refine cl (wn rfl) hr hc ?_; clear hc h
  rintro _ w ⟨caq11, ccq12, caq13, ccq14, rfl, h⟩; refine ⟨_, rfl, fun a hr => ?_⟩
  refine ln ?_
  refine sr ?_
  refine oo [21, 4, 5] [vI (at_ p0.cell p1.toNat), vI (at_ p0.cell p1.toNat), vI 0] hr fun a hr => ?_
  refine ln ?_
  refine wp_ret ?_
  refine end_ret2 (v := vI (at_ p0.cell p1.toNat)) (v' := vI 0) rfl hr (by kernel_rfl) (by kernel_rfl) ?_
  obtain ⟨rfl, rfl, rfl⟩ := ej3 H
  exact ⟨caq11, ccq12, caq13, ccq14, rfl, h⟩

/-- (*plunder/frames.Op).fetch -/
def frames_Op_fetch_iface (p0 : T_frames_Op) (p1 : T_cells_Arena) : Option (Int × T_frames_Op × T_cells_Arena) :=
  ob1 (frames_Table__slot (⟨p0.head_t_Base, p0.head_t_Frames⟩ : T_frames_Table) p0.head_frame p0.slot) (fun r5 => ob3 (cells_Arena_Load p1 r5) (fun r7 r8 S9 => (if r8 = 0 then ob1 (frames_head_end p0 15 r7) (fun S16 => some (r8, S16, S9)) else some (r8, p0, S9))))

theorem frames_Op_fetch_iface_ok {z w : World} {L : List HProp} {p0 q0 : T_frames_Op} {p1 q1 : T_cells_Arena} {B0 B1 cc2 cc4 : Nat} {ca1 ca3 : Option Addr} {r0 : Int} (H : frames_Op_fetch_iface p0 p1 = some (r0, q0, q1)) (h : Fit z (sepL (ob90 B0 p0 :: ob102 B1 p1 ca1 cc2 ca3 cc4 :: ro2 ca1 cc2 p1.cell :: ro111 ca3 cc4 p1.log :: L)) w)  :
    Calls Tryd.prog 70 #[pA B0 0, .iface 37 (pA B1 0)] w fun e w => ∃ caq1_1 ccq1_2 caq1_3 ccq1_4, e = .returned (vI r0) ∧ Fit z (sepL (ob90 B0 q0 :: ob102 B1 q1 caq1_1 ccq1_2 caq1_3 ccq1_4 :: ro2 caq1_1 ccq1_2 q1.cell :: ro111 caq1_3 ccq1_4 q1.log :: L)) w := by
 unfold frames_Op_fetch_iface at H
 refine enter Tryd.func70 rfl 38 rfl rfl [(0, pA B0 0), (1, .iface 37 (pA B1 0))] ⟨rfl, rfl, trivial⟩ ?_
 intro j a hr
 refine sr ?_
 refine o1 hr (vI 0) fun a hr => ?_
 refine ln ?_
 refine wp_seq ?_
 obtain ⟨r5, e6, H⟩ := bd1 H
 obtain ⟨r7, r8, S9, e10, H⟩ := bd3 H
 refine regL [(B0, 0, [vI p0.head_t_Base, vI p0.head_t_Frames]), (B0, 2, [vI p0.head_frame]), (B0, 7, [vI p0.slot])] [2, 3, 4, 7, 8, 9, 12, 13, 15, 16, 17] 25 h (fun h => ⟨(h.held 0 rfl), ⟨h.cell 2 rfl, trivial⟩, ⟨h.cell 7 rfl, trivial⟩, trivial⟩) fun w h hd => ?_
 refine evs' hd 10 [(0, 8, .iface 37 (pA B1 0)), (1, 9, pA B0 0), (2, 10, pA B0 0), (3, 11, pA B0 0), (4, 12, pA B0 0), (6, 14, pA B0 0), (7, 15, pA B0 0), (8, 16, pA B0 0), (9, 17, pA B0 2), (11, 19, pA B0 0), (12, 20, pA B0 0), (13, 21, pA B0 7), (16, 24, .func (.method "Load") #[.iface 37 (pA B1 0)] #[]), (17, 25, .func (.method "Load") #[.iface 37 (pA B1 0)] #[]), (18, 26, .iface 37 (pA B1 0))] hr fun a hr => ?_
 refine elm hd 0 9 5 hr (wn rfl) rfl rfl fun a hr => ?_
 refine elx hd 1 8 10 hr (wn rfl) rfl rfl fun a hr => ?_
 refine elx hd 2 7 14 hr (wn rfl) rfl rfl fun a hr => ?_
 refine eo1 15 rfl ?_
 have hc := frames_Table__slot_ok (H := e6) (h := h)
 refine cl (wn rfl) hr hc ?_; clear hc h
 rintro _ w ⟨rfl, h⟩; refine ⟨_, rfl, fun a hr => ?_⟩
 refine ln ?_
 refine eE ⟨(h.held 0 rfl), ⟨h.cell 2 rfl, trivial⟩, ⟨h.cell 7 rfl, trivial⟩, trivial⟩ fun hd => ?_
 refine eo1 19 rfl ?_
 replace h := h.m3.m3.m3
 have hc := cells_Arena_Load_ok (H := e10) (h := h)
 refine cl (wn rfl) hr hc ?_; clear hc h
 rintro _ w ⟨caq11, ccq12, caq13, ccq14, rfl, h⟩; refine ⟨_, rfl, fun a hr => ?_⟩
 refine ln ?_
 refine xE ?_
 refine evs 4 20 rfl (wn rfl) hr (.tuple #[vI r7, vI r8]) fun a hr => ?_
 refine evs 3 21 rfl (wn rfl) hr (vI r7) fun a hr => ?_
 refine evs 2 22 rfl (wn rfl) hr (vI r8) fun a hr => ?_
 refine evs 1 23 rfl (wn rfl) hr (vI r7) fun a hr => ?_
 refine evs 0 24 rfl (wn rfl) hr (vI r8) fun a hr => ?_
 refine een ?_
 refine then_normal ?_
 refine wp_seq ?_
 refine sr ?_
 refine oo [30, 31] [vI r8, vB (r8 == 0)] hr fun a hr => ?_
 refine ln ?_
 refine cD hr H (fun c15 H => ?_) fun c15 H => ?_
 ·
  refine wp_region_lit ?_
  obtain ⟨S16, e17, H⟩ := bd1 H
  refine oo [32, 33, 34, 35] [pA B0 0, pA B0 0, pA B0 0, vI r7] hr fun a hr => ?_
  replace h := h.m3
  have hc := frames_head_end_ok (H := e17) (h := h)
  refine cl (wn rfl) hr hc ?_; clear hc h
  rintro _ w ⟨rfl, h⟩; refine ⟨_, rfl, fun a hr => ?_⟩
  refine ln ?_
  refine sr ?_
  refine oo [37, 4] [vI r8, vI r8] hr fun a hr => ?_
  refine ln ?_
  refine wp_ret ?_
  refine end_ret1 (v := vI r8) rfl hr (by kernel_rfl) ?_
  obtain ⟨rfl, rfl, rfl⟩ := ej3 H
  exact ⟨caq11, ccq12, caq13, ccq14, rfl, h⟩
 ·
  refine wp_skip ?_
  refine then_normal ?_
  refine sr ?_
  refine oo [37, 4] [vI r8, vI r8] hr fun a hr => ?_
  refine ln ?_
  refine wp_ret ?_
  refine end_ret1 (v := vI r8) rfl hr (by kernel_rfl) ?_
  obtain ⟨rfl, rfl, rfl⟩ := ej3 H
  exact ⟨caq11, ccq12, caq13, ccq14, rfl, h.se 4 [3, 0, 1, 2]⟩

/-- plunder/frames.Step -/
def frames_Step_iface (p0 : T_cells_Arena) (p1 : T_frames_Op) : Option (T_frames_Op × T_cells_Arena) :=
  (if p1.head_stands = 0 then some (p1, p0) else (if p1.kind = 0 then ob3 (frames_Op_alloc_iface p1 p0) (fun r9 S10 S11 => (if r9 = 0 then (if S10.head_stands > 0 then some ({ S10 with head_stands := wi (S10.head_stands + 1) }, S11) else some (S10, S11)) else ob1 (frames_head_end S10 1 0) (fun S19 => some (S19, S11)))) else (if p1.kind = 1 then ob3 (frames_Op_fork_iface p1 p0) (fun r22 S23 S24 => (if r22 = 0 then (if S23.head_stands > 0 then some ({ S23 with head_stands := wi (S23.head_stands + 1) }, S24) else some (S23, S24)) else ob1 (frames_head_end S23 1 0) (fun S32 => some (S32, S24)))) else (if p1.kind = 2 then ob3 (frames_Op_finish_iface p1 p0) (fun r35 S36 S37 => (if r35 = 0 then (if S36.head_stands > 0 then some ({ S36 with head_stands := wi (S36.head_stands + 1) }, S37) else some (S36, S37)) else ob1 (frames_head_end S36 1 0) (fun S45 => some (S45, S37)))) else (if p1.kind = 3 then ob3 (frames_Op_sync_iface p1 p0) (fun r48 S49 S50 => (if r48 = 0 then (if S49.head_stands > 0 then some ({ S49 with head_stands := wi (S49.head_stands + 1) }, S50) else some (S49, S50)) else ob1 (frames_head_end S49 1 0) (fun S58 => some (S58, S50)))) else (if p1.kind = 4 then ob3 (frames_Op_start_iface p1 p0) (fun r61 S62 S63 => (if r61 = 0 then (if S62.head_stands > 0 then some ({ S62 with head_stands := wi (S62.head_stands + 1) }, S63) else some (S62, S63)) else ob1 (frames_head_end S62 1 0) (fun S71 => some (S71, S63)))) else ob3 (frames_Op_fetch_iface p1 p0) (fun r73 S74 S75 => (if r73 = 0 then (if S74.head_stands > 0 then some ({ S74 with head_stands := wi (S74.head_stands + 1) }, S75) else some (S74, S75)) else ob1 (frames_head_end S74 1 0) (fun S83 => some (S83, S75))))))))))

theorem frames_Step_iface_ok {z w : World} {L : List HProp} {p0 q0 : T_cells_Arena} {p1 r0 : T_frames_Op} {B0 cc2 cc4 : Nat} {ca1 ca3 : Option Addr} (H : frames_Step_iface p0 p1 = some (r0, q0)) (h : Fit z (sepL (ob102 B0 p0 ca1 cc2 ca3 cc4 :: ro2 ca1 cc2 p0.cell :: ro111 ca3 cc4 p0.log :: L)) w)  :
    Calls Tryd.prog 38 #[.iface 37 (pA B0 0), ag_T_frames_Op p1] w fun e w => ∃ caq0_1 ccq0_2 caq0_3 ccq0_4, e = .returned (ag_T_frames_Op r0) ∧ Fit z (sepL (ob102 B0 q0 caq0_1 ccq0_2 caq0_3 ccq0_4 :: ro2 caq0_1 ccq0_2 q0.cell :: ro111 caq0_3 ccq0_4 q0.log :: L)) w := by
 unfold frames_Step_iface at H
 refine enter Tryd.func38 rfl 36 rfl rfl [(0, .iface 37 (pA B0 0)), (1, ag_T_frames_Op p1)] ⟨rfl, rfl, trivial⟩ ?_
 intro j a hr
 refine sr ?_
 refine onew (wn rfl) hr h nb (ca_T_frames_Op p1) 90 fun b5 w a h hr => ?_
 refine onew (wn rfl) hr h nb (#[vI 0, vI 0, vI 0, vI 0, vI 0, vI 0, vI 0, vI 0, vI 0]) 90 fun b6 w a h hr => ?_
 refine ln ?_
 refine wp_seq ?_
 refine sr ?_
 refine oo [6, 7] [pA b5 0, pA b5 3] hr fun a hr => ?_
 refine ld (wn rfl) hr (vI p1.head_stands) ((h.pick 1).cell 3 rfl) fun a hr => ?_
 refine o1 hr (vB (p1.head_stands == 0)) fun a hr => ?_
 refine ln ?_
 refine cD hr H (fun c7 H => ?_) fun c7 H => ?_
 ·
  refine sr ?_
  refine ldm (wn rfl) hr (ag_T_frames_Op p1) (cs := cl_T_frames_Op p1) ((h.pick 1).held 0 rfl) fun a hr => ?_
  refine stm (wn rfl) hr h 0 (cl_T_frames_Op p1) (ob90 b6 p1) fun w h => ?_
  refine ln ?_
  refine wp_ret ?_
  refine then_ret ?_
  refine end_retC (cs := cl_T_frames_Op p1) rfl hr (by kernel_rfl) (by kernel_rfl) (by kernel_rfl) (h.held 0 rfl) ?_
  obtain ⟨rfl, rfl⟩ := ej2 H
  exact ⟨ca1, cc2, ca3, cc4, rfl, h.se 5 [2, 3, 4]⟩
 ·
  refine wp_skip ?_
  refine then_normal ?_
  refine wp_seq ?_
  refine sr ?_
  refine oo [11, 12] [.iface 37 (pA B0 0), vB false] hr fun a hr => ?_
  refine ln ?_
  refine cond_ff hr (b := false) rfl ?_
  refine wp_skip ?_
  refine then_normal ?_
  refine wp_seq ?_
  refine sr ?_
  refine o1 hr (pA b5 6) fun a hr => ?_
  refine ld (wn rfl) hr (vI p1.kind) ((h.pick 1).cell 6 rfl) fun a hr => ?_
  refine op_inl (wn rfl) rfl rfl hr (f := 56) (args := #[vI p1.kind]) (by kernel_rfl) ?_; clear hr a
  refine enter Tryd.func56 rfl 14 rfl rfl [(0, vI p1.kind)] ⟨by kernel_rfl, trivial⟩ ?_; intro j a hr
  refine sr ?_
  refine o1 hr (.nilFunc) fun a hr => ?_
  refine ln ?_
  refine wp_seq ?_
  refine sr ?_
  refine o1 hr (vI p1.kind) fun a hr => ?_
  refine ln ?_
  refine wp_block ?_
  refine sr ?_
  refine oo [5, 4] [vB (p1.kind == 0), vB (p1.kind == 0)] hr fun a hr => ?_
  refine ln ?_
  refine cD hr H (fun c8 H => ?_) fun c8 H => ?_
  ·
   refine sr ?_
   refine o1 hr (.func (.func 65) #[] #[]) fun a hr => ?_
   refine ln ?_
   refine wp_ret ?_
   refine blk_ret ?_
   refine then_ret ?_
   refine end_ret1 (v := .func (.func 65) #[] #[]) rfl hr (by kernel_rfl) ?_
   refine ⟨_, rfl, ?_⟩; clear hr a; intro a hr
   obtain ⟨r9, S10, S11, e12, H⟩ := bd3 H
   refine o1 hr (.iface 37 (pA B0 0)) fun a hr => ?_
   replace h := h.m4.m4.m4.m4
   have hc := frames_Op_alloc_iface_ok (H := e12) (h := h)
   refine cl (wn rfl) hr hc ?_; clear hc h
   rintro _ w ⟨caq13, ccq14, caq15, ccq16, rfl, h⟩; refine ⟨_, rfl, fun a hr => ?_⟩
   refine o1 hr (vI r9) fun a hr => ?_
   refine ln ?_
   refine sr ?_
   refine oo [21, 22] [vI r9, vB (r9 != 0)] hr fun a hr => ?_
   refine ln ?_
   refine cN hr H (fun c17 H => ?_) fun c17 H => ?_
   ·
    refine sr ?_
    refine oo [25, 26] [pA b5 0, pA b5 3] hr fun a hr => ?_
    refine ld (wn rfl) hr (vI S10.head_stands) (h.cell 3 rfl) fun a hr => ?_
    refine o1 hr (vB (decide (S10.head_stands > 0))) fun a hr => ?_
    refine ln ?_
    refine cD hr H (fun c18 H => ?_) fun c18 H => ?_
    ·
     refine wp_region_lit ?_
     refine oo [29, 30] [pA b5 0, pA b5 3] hr fun a hr => ?_
     refine ld (wn rfl) hr (vI S10.head_stands) (h.cell 3 rfl) fun a hr => ?_
     refine oo [32, 33, 34] [vI (wi (S10.head_stands + 1)), pA b5 0, pA b5 3] hr fun a hr => ?_
     refine st1 (wn rfl) hr h 3 (vI (wi (S10.head_stands + 1))) (pts b5 (.cells #[vI S10.head_t_Base, vI S10.head_t_Frames, vI S10.head_frame, vI (wi (S10.head_stands + 1)), vI S10.head_code, vI S10.head_v, vI S10.kind, vI S10.slot, vI S10.give] 90)) fun w h => ?_
     refine ln ?_
     refine sr ?_
     refine ldm (wn rfl) hr (.agg #[vI S10.head_t_Base, vI S10.head_t_Frames, vI S10.head_frame, vI (wi (S10.head_stands + 1)), vI S10.head_code, vI S10.head_v, vI S10.kind, vI S10.slot, vI S10.give]) (cs := [vI S10.head_t_Base, vI S10.head_t_Frames, vI S10.head_frame, vI (wi (S10.head_stands + 1)), vI S10.head_code, vI S10.head_v, vI S10.kind, vI S10.slot, vI S10.give]) (h.held 0 rfl) fun a hr => ?_
     replace h := h.m4
     refine stm (wn rfl) hr h 0 ([vI S10.head_t_Base, vI S10.head_t_Frames, vI S10.head_frame, vI (wi (S10.head_stands + 1)), vI S10.head_code, vI S10.head_v, vI S10.kind, vI S10.slot, vI S10.give]) (pts b6 (.cells #[vI S10.head_t_Base, vI S10.head_t_Frames, vI S10.head_frame, vI (wi (S10.head_stands + 1)), vI S10.head_code, vI S10.head_v, vI S10.kind, vI S10.slot, vI S10.give] 90)) fun w h => ?_
     refine ln ?_
     refine wp_ret ?_
     refine end_retC (cs := [vI S10.head_t_Base, vI S10.head_t_Frames, vI S10.head_frame, vI (wi (S10.head_stands + 1)), vI S10.head_code, vI S10.head_v, vI S10.kind, vI S10.slot, vI S10.give]) rfl hr (by kernel_rfl) (by kernel_rfl) (by kernel_rfl) (h.held 0 rfl) ?_
     obtain ⟨rfl, rfl⟩ := ej2 H
     exact ⟨caq13, ccq14, caq15, ccq16, rfl, h.se 5 [2, 3, 4]⟩
    ·
     refine wp_skip ?_
     refine then_normal ?_
     refine sr ?_
     refine ldm (wn rfl) hr (ag_T_frames_Op S10) (cs := cl_T_frames_Op S10) (h.held 0 rfl) fun a hr => ?_
     replace h := h.m4
     refine stm (wn rfl) hr h 0 (cl_T_frames_Op S10) (ob90 b6 S10) fun w h => ?_
     refine ln ?_
     refine wp_ret ?_
     refine end_retC (cs := cl_T_frames_Op S10) rfl hr (by kernel_rfl) (by kernel_rfl) (by kernel_rfl) (h.held 0 rfl) ?_
     obtain ⟨rfl, rfl⟩ := ej2 H
     exact ⟨caq13, ccq14, caq15, ccq16, rfl, h.se 5 [2, 3, 4]⟩
   ·
    refine wp_region_lit ?_
    obtain ⟨S19, e20, H⟩ := bd1 H
    refine o1 hr (pA b5 0) fun a hr => ?_
    have hc := frames_head_end_ok (H := e20) (h := h)
    refine cl (wn rfl) hr hc ?_; clear hc h
    rintro _ w ⟨rfl, h⟩; refine ⟨_, rfl, fun a hr => ?_⟩
    refine ln ?_
    refine sr ?_
    refine ldm (wn rfl) hr (ag_T_frames_Op S19) (cs := cl_T_frames_Op S19) (h.held 0 rfl) fun a hr => ?_
    replace h := h.m4
    refine stm (wn rfl) hr h 0 (cl_T_frames_Op S19) (ob90 b6 S19) fun w h => ?_
    refine ln ?_
    refine wp_ret ?_
    refine end_retC (cs := cl_T_frames_Op S19) rfl hr (by kernel_rfl) (by kernel_rfl) (by kernel_rfl) (h.held 0 rfl) ?_
    obtain ⟨rfl, rfl⟩ := ej2 H
    exact ⟨caq13, ccq14, caq15, ccq16, rfl, h.se 5 [2, 3, 4]⟩
  ·
   refine sr ?_
   refine oo [7, 6] [vB (p1.kind == 1), vB (p1.kind == 1)] hr fun a hr => ?_
   refine ln ?_
   refine cD hr H (fun c21 H => ?_) fun c21 H => ?_
   ·
    refine sr ?_
    refine o1 hr (.func (.func 66) #[] #[]) fun a hr => ?_
    refine ln ?_
    refine wp_ret ?_
    refine blk_ret ?_
    refine then_ret ?_
    refine end_ret1 (v := .func (.func 66) #[] #[]) rfl hr (by kernel_rfl) ?_
    refine ⟨_, rfl, ?_⟩; clear hr a; intro a hr
    obtain ⟨r22, S23, S24, e25, H⟩ := bd3 H
    refine o1 hr (.iface 37 (pA B0 0)) fun a hr => ?_
    replace h := h.m4.m4.m4.m4
    have hc := frames_Op_fork_iface_ok (H := e25) (h := h)
    refine cl (wn rfl) hr hc ?_; clear hc h
    rintro _ w ⟨caq26, ccq27, caq28, ccq29, rfl, h⟩; refine ⟨_, rfl, fun a hr => ?_⟩
    refine o1 hr (vI r22) fun a hr => ?_
    refine ln ?_
    refine sr ?_
    refine oo [21, 22] [vI r22, vB (r22 != 0)] hr fun a hr => ?_
    refine ln ?_
    refine cN hr H (fun c30 H => ?_) fun c30 H => ?_
    ·
     refine sr ?_
     refine oo [25, 26] [pA b5 0, pA b5 3] hr fun a hr => ?_
     refine ld (wn rfl) hr (vI S23.head_stands) (h.cell 3 rfl) fun a hr => ?_
     refine o1 hr (vB (decide (S23.head_stands > 0))) fun a hr => ?_
     refine ln ?_
     refine cD hr H (fun c31 H => ?_) fun c31 H => ?_
     ·
      refine wp_region_lit ?_
      refine oo [29, 30] [pA b5 0, pA b5 3] hr fun a hr => ?_
      refine ld (wn rfl) hr (vI S23.head_stands) (h.cell 3 rfl) fun a hr => ?_
      refine oo [32, 33, 34] [vI (wi (S23.head_stands + 1)), pA b5 0, pA b5 3] hr fun a hr => ?_
      refine st1 (wn rfl) hr h 3 (vI (wi (S23.head_stands + 1))) (pts b5 (.cells #[vI S23.head_t_Base, vI S23.head_t_Frames, vI S23.head_frame, vI (wi (S23.head_stands + 1)), vI S23.head_code, vI S23.head_v, vI S23.kind, vI S23.slot, vI S23.give] 90)) fun w h => ?_
      refine ln ?_
      refine sr ?_
      refine ldm (wn rfl) hr (.agg #[vI S23.head_t_Base, vI S23.head_t_Frames, vI S23.head_frame, vI (wi (S23.head_stands + 1)), vI S23.head_code, vI S23.head_v, vI S23.kind, vI S23.slot, vI S23.give]) (cs := [vI S23.head_t_Base, vI S23.head_t_Frames, vI S23.head_frame, vI (wi (S23.head_stands + 1)), vI S23.head_code, vI S23.head_v, vI S23.kind, vI S23.slot, vI S23.give]) (h.held 0 rfl) fun a hr => ?_
      replace h := h.m4
      refine stm (wn rfl) hr h 0 ([vI S23.head_t_Base, vI S23.head_t_Frames, vI S23.head_frame, vI (wi (S23.head_stands + 1)), vI S23.head_code, vI S23.head_v, vI S23.kind, vI S23.slot, vI S23.give]) (pts b6 (.cells #[vI S23.head_t_Base, vI S23.head_t_Frames, vI S23.head_frame, vI (wi (S23.head_stands + 1)), vI S23.head_code, vI S23.head_v, vI S23.kind, vI S23.slot, vI S23.give] 90)) fun w h => ?_
      refine ln ?_
      refine wp_ret ?_
      refine end_retC (cs := [vI S23.head_t_Base, vI S23.head_t_Frames, vI S23.head_frame, vI (wi (S23.head_stands + 1)), vI S23.head_code, vI S23.head_v, vI S23.kind, vI S23.slot, vI S23.give]) rfl hr (by kernel_rfl) (by kernel_rfl) (by kernel_rfl) (h.held 0 rfl) ?_
      obtain ⟨rfl, rfl⟩ := ej2 H
      exact ⟨caq26, ccq27, caq28, ccq29, rfl, h.se 5 [2, 3, 4]⟩
     ·
      refine wp_skip ?_
      refine then_normal ?_
      refine sr ?_
      refine ldm (wn rfl) hr (ag_T_frames_Op S23) (cs := cl_T_frames_Op S23) (h.held 0 rfl) fun a hr => ?_
      replace h := h.m4
      refine stm (wn rfl) hr h 0 (cl_T_frames_Op S23) (ob90 b6 S23) fun w h => ?_
      refine ln ?_
      refine wp_ret ?_
      refine end_retC (cs := cl_T_frames_Op S23) rfl hr (by kernel_rfl) (by kernel_rfl) (by kernel_rfl) (h.held 0 rfl) ?_
      obtain ⟨rfl, rfl⟩ := ej2 H
      exact ⟨caq26, ccq27, caq28, ccq29, rfl, h.se 5 [2, 3, 4]⟩
    ·
     refine wp_region_lit ?_
     obtain ⟨S32, e33, H⟩ := bd1 H
     refine o1 hr (pA b5 0) fun a hr => ?_
     have hc := frames_head_end_ok (H := e33) (h := h)
     refine cl (wn rfl) hr hc ?_; clear hc h
     rintro _ w ⟨rfl, h⟩; refine ⟨_, rfl, fun a hr => ?_⟩
     refine ln ?_
     refine sr ?_
     refine ldm (wn rfl) hr (ag_T_frames_Op S32) (cs := cl_T_frames_Op S32) (h.held 0 rfl) fun a hr => ?_
     replace h := h.m4
     refine stm (wn rfl) hr h 0 (cl_T_frames_Op S32) (ob90 b6 S32) fun w h => ?_
     refine ln ?_
     refine wp_ret ?_
     refine end_retC (cs := cl_T_frames_Op S32) rfl hr (by kernel_rfl) (by kernel_rfl) (by kernel_rfl) (h.held 0 rfl) ?_
     obtain ⟨rfl, rfl⟩ := ej2 H
     exact ⟨caq26, ccq27, caq28, ccq29, rfl, h.se 5 [2, 3, 4]⟩
   ·
    refine sr ?_
    refine oo [9, 8] [vB (p1.kind == 2), vB (p1.kind == 2)] hr fun a hr => ?_
    refine ln ?_
    refine cD hr H (fun c34 H => ?_) fun c34 H => ?_
    ·
     refine sr ?_
     refine o1 hr (.func (.func 67) #[] #[]) fun a hr => ?_
     refine ln ?_
     refine wp_ret ?_
     refine blk_ret ?_
     refine then_ret ?_
     refine end_ret1 (v := .func (.func 67) #[] #[]) rfl hr (by kernel_rfl) ?_
     refine ⟨_, rfl, ?_⟩; clear hr a; intro a hr
     obtain ⟨r35, S36, S37, e38, H⟩ := bd3 H
     refine o1 hr (.iface 37 (pA B0 0)) fun a hr => ?_
     replace h := h.m4.m4.m4.m4
     have hc := frames_Op_finish_iface_ok (H := e38) (h := h)
     refine cl (wn rfl) hr hc ?_; clear hc h
     rintro _ w ⟨caq39, ccq40, caq41, ccq42, rfl, h⟩; refine ⟨_, rfl, fun a hr => ?_⟩
     refine o1 hr (vI r35) fun a hr => ?_
     refine ln ?_
     refine sr ?_
     refine oo [21, 22] [vI r35, vB (r35 != 0)] hr fun a hr => ?_
     refine ln ?_
     refine cN hr H (fun c43 H => ?_) fun c43 H => ?_
     ·
      refine sr ?_
      refine oo [25, 26] [pA b5 0, pA b5 3] hr fun a hr => ?_
      refine ld (wn rfl) hr (vI S36.head_stands) (h.cell 3 rfl) fun a hr => ?_
      refine o1 hr (vB (decide (S36.head_stands > 0))) fun a hr => ?_
      refine ln ?_
      refine cD hr H (fun c44 H => ?_) fun c44 H => ?_
      ·
       refine wp_region_lit ?_
       refine oo [29, 30] [pA b5 0, pA b5 3] hr fun a hr => ?_
       refine ld (wn rfl) hr (vI S36.head_stands) (h.cell 3 rfl) fun a hr => ?_
       refine oo [32, 33, 34] [vI (wi (S36.head_stands + 1)), pA b5 0, pA b5 3] hr fun a hr => ?_
       refine st1 (wn rfl) hr h 3 (vI (wi (S36.head_stands + 1))) (pts b5 (.cells #[vI S36.head_t_Base, vI S36.head_t_Frames, vI S36.head_frame, vI (wi (S36.head_stands + 1)), vI S36.head_code, vI S36.head_v, vI S36.kind, vI S36.slot, vI S36.give] 90)) fun w h => ?_
       refine ln ?_
       refine sr ?_
       refine ldm (wn rfl) hr (.agg #[vI S36.head_t_Base, vI S36.head_t_Frames, vI S36.head_frame, vI (wi (S36.head_stands + 1)), vI S36.head_code, vI S36.head_v, vI S36.kind, vI S36.slot, vI S36.give]) (cs := [vI S36.head_t_Base, vI S36.head_t_Frames, vI S36.head_frame, vI (wi (S36.head_stands + 1)), vI S36.head_code, vI S36.head_v, vI S36.kind, vI S36.slot, vI S36.give]) (h.held 0 rfl) fun a hr => ?_
       replace h := h.m4
       refine stm (wn rfl) hr h 0 ([vI S36.head_t_Base, vI S36.head_t_Frames, vI S36.head_frame, vI (wi (S36.head_stands + 1)), vI S36.head_code, vI S36.head_v, vI S36.kind, vI S36.slot, vI S36.give]) (pts b6 (.cells #[vI S36.head_t_Base, vI S36.head_t_Frames, vI S36.head_frame, vI (wi (S36.head_stands + 1)), vI S36.head_code, vI S36.head_v, vI S36.kind, vI S36.slot, vI S36.give] 90)) fun w h => ?_
       refine ln ?_
       refine wp_ret ?_
       refine end_retC (cs := [vI S36.head_t_Base, vI S36.head_t_Frames, vI S36.head_frame, vI (wi (S36.head_stands + 1)), vI S36.head_code, vI S36.head_v, vI S36.kind, vI S36.slot, vI S36.give]) rfl hr (by kernel_rfl) (by kernel_rfl) (by kernel_rfl) (h.held 0 rfl) ?_
       obtain ⟨rfl, rfl⟩ := ej2 H
       exact ⟨caq39, ccq40, caq41, ccq42, rfl, h.se 5 [2, 3, 4]⟩
      ·
       refine wp_skip ?_
       refine then_normal ?_
       refine sr ?_
       refine ldm (wn rfl) hr (ag_T_frames_Op S36) (cs := cl_T_frames_Op S36) (h.held 0 rfl) fun a hr => ?_
       replace h := h.m4
       refine stm (wn rfl) hr h 0 (cl_T_frames_Op S36) (ob90 b6 S36) fun w h => ?_
       refine ln ?_
       refine wp_ret ?_
       refine end_retC (cs := cl_T_frames_Op S36) rfl hr (by kernel_rfl) (by kernel_rfl) (by kernel_rfl) (h.held 0 rfl) ?_
       obtain ⟨rfl, rfl⟩ := ej2 H
       exact ⟨caq39, ccq40, caq41, ccq42, rfl, h.se 5 [2, 3, 4]⟩
     ·
      refine wp_region_lit ?_
      obtain ⟨S45, e46, H⟩ := bd1 H
      refine o1 hr (pA b5 0) fun a hr => ?_
      have hc := frames_head_end_ok (H := e46) (h := h)
      refine cl (wn rfl) hr hc ?_; clear hc h
      rintro _ w ⟨rfl, h⟩; refine ⟨_, rfl, fun a hr => ?_⟩
      refine ln ?_
      refine sr ?_
      refine ldm (wn rfl) hr (ag_T_frames_Op S45) (cs := cl_T_frames_Op S45) (h.held 0 rfl) fun a hr => ?_
      replace h := h.m4
      refine stm (wn rfl) hr h 0 (cl_T_frames_Op S45) (ob90 b6 S45) fun w h => ?_
      refine ln ?_
      refine wp_ret ?_
      refine end_retC (cs := cl_T_frames_Op S45) rfl hr (by kernel_rfl) (by kernel_rfl) (by kernel_rfl) (h.held 0 rfl) ?_
      obtain ⟨rfl, rfl⟩ := ej2 H
      exact ⟨caq39, ccq40, caq41, ccq42, rfl, h.se 5 [2, 3, 4]⟩
    ·
     refine sr ?_
     refine oo [11, 10] [vB (p1.kind == 3), vB (p1.kind == 3)] hr fun a hr => ?_
     refine ln ?_
     refine cD hr H (fun c47 H => ?_) fun c47 H => ?_
     ·
      refine sr ?_
      refine o1 hr (.func (.func 68) #[] #[]) fun a hr => ?_
      refine ln ?_
      refine wp_ret ?_
      refine blk_ret ?_
      refine then_ret ?_
      refine end_ret1 (v := .func (.func 68) #[] #[]) rfl hr (by kernel_rfl) ?_
      refine ⟨_, rfl, ?_⟩; clear hr a; intro a hr
      obtain ⟨r48, S49, S50, e51, H⟩ := bd3 H
      refine o1 hr (.iface 37 (pA B0 0)) fun a hr => ?_
      replace h := h.m4.m4.m4.m4
      have hc := frames_Op_sync_iface_ok (H := e51) (h := h)
      refine cl (wn rfl) hr hc ?_; clear hc h
      rintro _ w ⟨caq52, ccq53, caq54, ccq55, rfl, h⟩; refine ⟨_, rfl, fun a hr => ?_⟩
      refine o1 hr (vI r48) fun a hr => ?_
      refine ln ?_
      refine sr ?_
      refine oo [21, 22] [vI r48, vB (r48 != 0)] hr fun a hr => ?_
      refine ln ?_
      refine cN hr H (fun c56 H => ?_) fun c56 H => ?_
      ·
       refine sr ?_
       refine oo [25, 26] [pA b5 0, pA b5 3] hr fun a hr => ?_
       refine ld (wn rfl) hr (vI S49.head_stands) (h.cell 3 rfl) fun a hr => ?_
       refine o1 hr (vB (decide (S49.head_stands > 0))) fun a hr => ?_
       refine ln ?_
       refine cD hr H (fun c57 H => ?_) fun c57 H => ?_
       ·
        refine wp_region_lit ?_
        refine oo [29, 30] [pA b5 0, pA b5 3] hr fun a hr => ?_
        refine ld (wn rfl) hr (vI S49.head_stands) (h.cell 3 rfl) fun a hr => ?_
        refine oo [32, 33, 34] [vI (wi (S49.head_stands + 1)), pA b5 0, pA b5 3] hr fun a hr => ?_
        refine st1 (wn rfl) hr h 3 (vI (wi (S49.head_stands + 1))) (pts b5 (.cells #[vI S49.head_t_Base, vI S49.head_t_Frames, vI S49.head_frame, vI (wi (S49.head_stands + 1)), vI S49.head_code, vI S49.head_v, vI S49.kind, vI S49.slot, vI S49.give] 90)) fun w h => ?_
        refine ln ?_
        refine sr ?_
        refine ldm (wn rfl) hr (.agg #[vI S49.head_t_Base, vI S49.head_t_Frames, vI S49.head_frame, vI (wi (S49.head_stands + 1)), vI S49.head_code, vI S49.head_v, vI S49.kind, vI S49.slot, vI S49.give]) (cs := [vI S49.head_t_Base, vI S49.head_t_Frames, vI S49.head_frame, vI (wi (S49.head_stands + 1)), vI S49.head_code, vI S49.head_v, vI S49.kind, vI S49.slot, vI S49.give]) (h.held 0 rfl) fun a hr => ?_
        replace h := h.m4
        refine stm (wn rfl) hr h 0 ([vI S49.head_t_Base, vI S49.head_t_Frames, vI S49.head_frame, vI (wi (S49.head_stands + 1)), vI S49.head_code, vI S49.head_v, vI S49.kind, vI S49.slot, vI S49.give]) (pts b6 (.cells #[vI S49.head_t_Base, vI S49.head_t_Frames, vI S49.head_frame, vI (wi (S49.head_stands + 1)), vI S49.head_code, vI S49.head_v, vI S49.kind, vI S49.slot, vI S49.give] 90)) fun w h => ?_
        refine ln ?_
        refine wp_ret ?_
        refine end_retC (cs := [vI S49.head_t_Base, vI S49.head_t_Frames, vI S49.head_frame, vI (wi (S49.head_stands + 1)), vI S49.head_code, vI S49.head_v, vI S49.kind, vI S49.slot, vI S49.give]) rfl hr (by kernel_rfl) (by kernel_rfl) (by kernel_rfl) (h.held 0 rfl) ?_
        obtain ⟨rfl, rfl⟩ := ej2 H
        exact ⟨caq52, ccq53, caq54, ccq55, rfl, h.se 5 [2, 3, 4]⟩
       ·
        refine wp_skip ?_
        refine then_normal ?_
        refine sr ?_
        refine ldm (wn rfl) hr (ag_T_frames_Op S49) (cs := cl_T_frames_Op S49) (h.held 0 rfl) fun a hr => ?_
        replace h := h.m4
        refine stm (wn rfl) hr h 0 (cl_T_frames_Op S49) (ob90 b6 S49) fun w h => ?_
        refine ln ?_
        refine wp_ret ?_
        refine end_retC (cs := cl_T_frames_Op S49) rfl hr (by kernel_rfl) (by kernel_rfl) (by kernel_rfl) (h.held 0 rfl) ?_
        obtain ⟨rfl, rfl⟩ := ej2 H
        exact ⟨caq52, ccq53, caq54, ccq55, rfl, h.se 5 [2, 3, 4]⟩
      ·
       refine wp_region_lit ?_
       obtain ⟨S58, e59, H⟩ := bd1 H
       refine o1 hr (pA b5 0) fun a hr => ?_
       have hc := frames_head_end_ok (H := e59) (h := h)
       refine cl (wn rfl) hr hc ?_; clear hc h
       rintro _ w ⟨rfl, h⟩; refine ⟨_, rfl, fun a hr => ?_⟩
       refine ln ?_
       refine sr ?_
       refine ldm (wn rfl) hr (ag_T_frames_Op S58) (cs := cl_T_frames_Op S58) (h.held 0 rfl) fun a hr => ?_
       replace h := h.m4
       refine stm (wn rfl) hr h 0 (cl_T_frames_Op S58) (ob90 b6 S58) fun w h => ?_
       refine ln ?_
       refine wp_ret ?_
       refine end_retC (cs := cl_T_frames_Op S58) rfl hr (by kernel_rfl) (by kernel_rfl) (by kernel_rfl) (h.held 0 rfl) ?_
       obtain ⟨rfl, rfl⟩ := ej2 H
       exact ⟨caq52, ccq53, caq54, ccq55, rfl, h.se 5 [2, 3, 4]⟩
     ·
      refine sr ?_
      refine oo [13, 12] [vB (p1.kind == 4), vB (p1.kind == 4)] hr fun a hr => ?_
      refine ln ?_
      refine cD hr H (fun c60 H => ?_) fun c60 H => ?_
      ·
       refine sr ?_
       refine o1 hr (.func (.func 69) #[] #[]) fun a hr => ?_
       refine ln ?_
       refine wp_ret ?_
       refine blk_ret ?_
       refine then_ret ?_
       refine end_ret1 (v := .func (.func 69) #[] #[]) rfl hr (by kernel_rfl) ?_
       refine ⟨_, rfl, ?_⟩; clear hr a; intro a hr
       obtain ⟨r61, S62, S63, e64, H⟩ := bd3 H
       refine o1 hr (.iface 37 (pA B0 0)) fun a hr => ?_
       replace h := h.m4.m4.m4.m4
       have hc := frames_Op_start_iface_ok (H := e64) (h := h)
       refine cl (wn rfl) hr hc ?_; clear hc h
       rintro _ w ⟨caq65, ccq66, caq67, ccq68, rfl, h⟩; refine ⟨_, rfl, fun a hr => ?_⟩
       refine o1 hr (vI r61) fun a hr => ?_
       refine ln ?_
       refine sr ?_
       refine oo [21, 22] [vI r61, vB (r61 != 0)] hr fun a hr => ?_
       refine ln ?_
       refine cN hr H (fun c69 H => ?_) fun c69 H => ?_
       ·
        refine sr ?_
        refine oo [25, 26] [pA b5 0, pA b5 3] hr fun a hr => ?_
        refine ld (wn rfl) hr (vI S62.head_stands) (h.cell 3 rfl) fun a hr => ?_
        refine o1 hr (vB (decide (S62.head_stands > 0))) fun a hr => ?_
        refine ln ?_
        refine cD hr H (fun c70 H => ?_) fun c70 H => ?_
        ·
         refine wp_region_lit ?_
         refine oo [29, 30] [pA b5 0, pA b5 3] hr fun a hr => ?_
         refine ld (wn rfl) hr (vI S62.head_stands) (h.cell 3 rfl) fun a hr => ?_
         refine oo [32, 33, 34] [vI (wi (S62.head_stands + 1)), pA b5 0, pA b5 3] hr fun a hr => ?_
         refine st1 (wn rfl) hr h 3 (vI (wi (S62.head_stands + 1))) (pts b5 (.cells #[vI S62.head_t_Base, vI S62.head_t_Frames, vI S62.head_frame, vI (wi (S62.head_stands + 1)), vI S62.head_code, vI S62.head_v, vI S62.kind, vI S62.slot, vI S62.give] 90)) fun w h => ?_
         refine ln ?_
         refine sr ?_
         refine ldm (wn rfl) hr (.agg #[vI S62.head_t_Base, vI S62.head_t_Frames, vI S62.head_frame, vI (wi (S62.head_stands + 1)), vI S62.head_code, vI S62.head_v, vI S62.kind, vI S62.slot, vI S62.give]) (cs := [vI S62.head_t_Base, vI S62.head_t_Frames, vI S62.head_frame, vI (wi (S62.head_stands + 1)), vI S62.head_code, vI S62.head_v, vI S62.kind, vI S62.slot, vI S62.give]) (h.held 0 rfl) fun a hr => ?_
         replace h := h.m4
         refine stm (wn rfl) hr h 0 ([vI S62.head_t_Base, vI S62.head_t_Frames, vI S62.head_frame, vI (wi (S62.head_stands + 1)), vI S62.head_code, vI S62.head_v, vI S62.kind, vI S62.slot, vI S62.give]) (pts b6 (.cells #[vI S62.head_t_Base, vI S62.head_t_Frames, vI S62.head_frame, vI (wi (S62.head_stands + 1)), vI S62.head_code, vI S62.head_v, vI S62.kind, vI S62.slot, vI S62.give] 90)) fun w h => ?_
         refine ln ?_
         refine wp_ret ?_
         refine end_retC (cs := [vI S62.head_t_Base, vI S62.head_t_Frames, vI S62.head_frame, vI (wi (S62.head_stands + 1)), vI S62.head_code, vI S62.head_v, vI S62.kind, vI S62.slot, vI S62.give]) rfl hr (by kernel_rfl) (by kernel_rfl) (by kernel_rfl) (h.held 0 rfl) ?_
         obtain ⟨rfl, rfl⟩ := ej2 H
         exact ⟨caq65, ccq66, caq67, ccq68, rfl, h.se 5 [2, 3, 4]⟩
        ·
         refine wp_skip ?_
         refine then_normal ?_
         refine sr ?_
         refine ldm (wn rfl) hr (ag_T_frames_Op S62) (cs := cl_T_frames_Op S62) (h.held 0 rfl) fun a hr => ?_
         replace h := h.m4
         refine stm (wn rfl) hr h 0 (cl_T_frames_Op S62) (ob90 b6 S62) fun w h => ?_
         refine ln ?_
         refine wp_ret ?_
         refine end_retC (cs := cl_T_frames_Op S62) rfl hr (by kernel_rfl) (by kernel_rfl) (by kernel_rfl) (h.held 0 rfl) ?_
         obtain ⟨rfl, rfl⟩ := ej2 H
         exact ⟨caq65, ccq66, caq67, ccq68, rfl, h.se 5 [2, 3, 4]⟩
       ·
        refine wp_region_lit ?_
        obtain ⟨S71, e72, H⟩ := bd1 H
        refine o1 hr (pA b5 0) fun a hr => ?_
        have hc := frames_head_end_ok (H := e72) (h := h)
        refine cl (wn rfl) hr hc ?_; clear hc h
        rintro _ w ⟨rfl, h⟩; refine ⟨_, rfl, fun a hr => ?_⟩
        refine ln ?_
        refine sr ?_
        refine ldm (wn rfl) hr (ag_T_frames_Op S71) (cs := cl_T_frames_Op S71) (h.held 0 rfl) fun a hr => ?_
        replace h := h.m4
        refine stm (wn rfl) hr h 0 (cl_T_frames_Op S71) (ob90 b6 S71) fun w h => ?_
        refine ln ?_
        refine wp_ret ?_
        refine end_retC (cs := cl_T_frames_Op S71) rfl hr (by kernel_rfl) (by kernel_rfl) (by kernel_rfl) (h.held 0 rfl) ?_
        obtain ⟨rfl, rfl⟩ := ej2 H
        exact ⟨caq65, ccq66, caq67, ccq68, rfl, h.se 5 [2, 3, 4]⟩
      ·
       refine wp_skip ?_
       refine blk_normal ?_
       refine then_normal ?_
       refine sr ?_
       refine o1 hr (.func (.func 70) #[] #[]) fun a hr => ?_
       refine ln ?_
       refine wp_ret ?_
       refine end_ret1 (v := .func (.func 70) #[] #[]) rfl hr (by kernel_rfl) ?_
       refine ⟨_, rfl, ?_⟩; clear hr a; intro a hr
       obtain ⟨r73, S74, S75, e76, H⟩ := bd3 H
       refine o1 hr (.iface 37 (pA B0 0)) fun a hr => ?_
       replace h := h.m4.m4.m4.m4
       have hc := frames_Op_fetch_iface_ok (H := e76) (h := h)
       refine cl (wn rfl) hr hc ?_; clear hc h
       rintro _ w ⟨caq77, ccq78, caq79, ccq80, rfl, h⟩; refine ⟨_, rfl, fun a hr => ?_⟩
       refine o1 hr (vI r73) fun a hr => ?_
       refine ln ?_
       refine sr ?_
       refine oo [21, 22] [vI r73, vB (r73 != 0)] hr fun a hr => ?_
       refine ln ?_
       refine cN hr H (fun c81 H => ?_) fun c81 H => ?_
       ·
        refine sr ?_
        refine oo [25, 26] [pA b5 0, pA b5 3] hr fun a hr => ?_
        refine ld (wn rfl) hr (vI S74.head_stands) (h.cell 3 rfl) fun a hr => ?_
        refine o1 hr (vB (decide (S74.head_stands > 0))) fun a hr => ?_
        refine ln ?_
        refine cD hr H (fun c82 H => ?_) fun c82 H => ?_
        ·
         refine wp_region_lit ?_
         refine oo [29, 30] [pA b5 0, pA b5 3] hr fun a hr => ?_
         refine ld (wn rfl) hr (vI S74.head_stands) (h.cell 3 rfl) fun a hr => ?_
         refine oo [32, 33, 34] [vI (wi (S74.head_stands + 1)), pA b5 0, pA b5 3] hr fun a hr => ?_
         refine st1 (wn rfl) hr h 3 (vI (wi (S74.head_stands + 1))) (pts b5 (.cells #[vI S74.head_t_Base, vI S74.head_t_Frames, vI S74.head_frame, vI (wi (S74.head_stands + 1)), vI S74.head_code, vI S74.head_v, vI S74.kind, vI S74.slot, vI S74.give] 90)) fun w h => ?_
         refine ln ?_
         refine sr ?_
         refine ldm (wn rfl) hr (.agg #[vI S74.head_t_Base, vI S74.head_t_Frames, vI S74.head_frame, vI (wi (S74.head_stands + 1)), vI S74.head_code, vI S74.head_v, vI S74.kind, vI S74.slot, vI S74.give]) (cs := [vI S74.head_t_Base, vI S74.head_t_Frames, vI S74.head_frame, vI (wi (S74.head_stands + 1)), vI S74.head_code, vI S74.head_v, vI S74.kind, vI S74.slot, vI S74.give]) (h.held 0 rfl) fun a hr => ?_
         replace h := h.m4
         refine stm (wn rfl) hr h 0 ([vI S74.head_t_Base, vI S74.head_t_Frames, vI S74.head_frame, vI (wi (S74.head_stands + 1)), vI S74.head_code, vI S74.head_v, vI S74.kind, vI S74.slot, vI S74.give]) (pts b6 (.cells #[vI S74.head_t_Base, vI S74.head_t_Frames, vI S74.head_frame, vI (wi (S74.head_stands + 1)), vI S74.head_code, vI S74.head_v, vI S74.kind, vI S74.slot, vI S74.give] 90)) fun w h => ?_
         refine ln ?_
         refine wp_ret ?_
         refine end_retC (cs := [vI S74.head_t_Base, vI S74.head_t_Frames, vI S74.head_frame, vI (wi (S74.head_stands + 1)), vI S74.head_code, vI S74.head_v, vI S74.kind, vI S74.slot, vI S74.give]) rfl hr (by kernel_rfl) (by kernel_rfl) (by kernel_rfl) (h.held 0 rfl) ?_
         obtain ⟨rfl, rfl⟩ := ej2 H
         exact ⟨caq77, ccq78, caq79, ccq80, rfl, h.se 5 [2, 3, 4]⟩
        ·
         refine wp_skip ?_
         refine then_normal ?_
         refine sr ?_
         refine ldm (wn rfl) hr (ag_T_frames_Op S74) (cs := cl_T_frames_Op S74) (h.held 0 rfl) fun a hr => ?_
         replace h := h.m4
         refine stm (wn rfl) hr h 0 (cl_T_frames_Op S74) (ob90 b6 S74) fun w h => ?_
         refine ln ?_
         refine wp_ret ?_
         refine end_retC (cs := cl_T_frames_Op S74) rfl hr (by kernel_rfl) (by kernel_rfl) (by kernel_rfl) (h.held 0 rfl) ?_
         obtain ⟨rfl, rfl⟩ := ej2 H
         exact ⟨caq77, ccq78, caq79, ccq80, rfl, h.se 5 [2, 3, 4]⟩
       ·
        refine wp_region_lit ?_
        obtain ⟨S83, e84, H⟩ := bd1 H
        refine o1 hr (pA b5 0) fun a hr => ?_
        have hc := frames_head_end_ok (H := e84) (h := h)
        refine cl (wn rfl) hr hc ?_; clear hc h
        rintro _ w ⟨rfl, h⟩; refine ⟨_, rfl, fun a hr => ?_⟩
        refine ln ?_
        refine sr ?_
        refine ldm (wn rfl) hr (ag_T_frames_Op S83) (cs := cl_T_frames_Op S83) (h.held 0 rfl) fun a hr => ?_
        replace h := h.m4
        refine stm (wn rfl) hr h 0 (cl_T_frames_Op S83) (ob90 b6 S83) fun w h => ?_
        refine ln ?_
        refine wp_ret ?_
        refine end_retC (cs := cl_T_frames_Op S83) rfl hr (by kernel_rfl) (by kernel_rfl) (by kernel_rfl) (h.held 0 rfl) ?_
        obtain ⟨rfl, rfl⟩ := ej2 H
        exact ⟨caq77, ccq78, caq79, ccq80, rfl, h.se 5 [2, 3, 4]⟩

/-- plunder/worker.counted -/
def worker_counted (p0 : Int) : Option (Bool) :=
  (if p0 ≥ 1 then some (decide (p0 ≤ 64)) else some false)

theorem worker_counted_ok {z w : World} {L : List HProp} {p0 : Int} {r0 : Bool} (H : worker_counted p0 = some r0) (h : Fit z (sepL (L)) w)  :
    Calls Tryd.prog 32 #[vI p0] w fun e w => e = .returned (vB r0) ∧ Fit z (sepL (L)) w := by
 unfold worker_counted at H
 refine enter Tryd.func32 rfl 9 rfl rfl [(0, vI p0)] ⟨rfl, trivial⟩ ?_
 intro j a hr
 refine sr ?_
 refine o1 hr (vB false) fun a hr => ?_
 refine ln ?_
 refine sr ?_
 refine oo [3, 4, 5] [vI p0, vB (decide (p0 ≥ 1)), vB (decide (p0 ≥ 1))] hr fun a hr => ?_
 by_cases c1 : p0 ≥ 1
 ·
  replace H := ifT c1 H
  refine onl (decide_eq_true c1) [6, 7] [vI p0, vB (decide (p0 ≤ 64))] hr fun a hr => ?_
  refine opv (wn rfl) hr (vB (decide (p0 ≤ 64))) (rp_t (b := (decide (p0 ≥ 1))) rfl (by kernel_rfl) (decide_eq_true c1) (by kernel_rfl)) fun a hr => ?_
  refine o1 hr (vB (decide (p0 ≤ 64))) fun a hr => ?_
  refine ln ?_
  refine wp_ret ?_
  refine end_ret1 (v := vB (decide (p0 ≤ 64))) rfl hr (by kernel_rfl) ?_
  replace H := ej1 H; subst H
  exact ⟨rfl, h⟩
 ·
  replace H := ifF c1 H
  refine offl (decide_eq_false c1) [6, 7] hr fun a hr => ?_
  refine opv (wn rfl) hr (vB false) (rp_f (b := (decide (p0 ≥ 1))) rfl (by kernel_rfl) (decide_eq_false c1) (by kernel_rfl)) fun a hr => ?_
  refine o1 hr (vB false) fun a hr => ?_
  refine ln ?_
  refine wp_ret ?_
  refine end_ret1 (v := vB false) rfl hr (by kernel_rfl) ?_
  replace H := ej1 H; subst H
  exact ⟨rfl, h⟩

/-- plunder/worker.limited -/
def worker_limited (p0 : T_api_Limits) : Option (Bool) :=
  (if p0.Frames ≥ 1 then (if p0.Frames ≤ 4096 then (if (1 : Int) ≤ p0.First then (if p0.First ≤ p0.Most then some (decide (p0.Most ≤ 4096)) else some false) else some false) else some false) else some false)

theorem worker_limited_ok {z w : World} {L : List HProp} {p0 : T_api_Limits} {r0 : Bool} (H : worker_limited p0 = some r0) (h : Fit z (sepL (L)) w)  :
    Calls Tryd.prog 33 #[ag_T_api_Limits p0] w fun e w => e = .returned (vB r0) ∧ Fit z (sepL (L)) w := by
 unfold worker_limited at H
 refine enter Tryd.func33 rfl 28 rfl rfl [(0, ag_T_api_Limits p0)] ⟨rfl, trivial⟩ ?_
 intro j a hr
 refine sr ?_
 refine onew (wn rfl) hr h nb (ca_T_api_Limits p0) 27 fun b1 w a h hr => ?_
 refine o1 hr (vB false) fun a hr => ?_
 refine ln ?_
 refine sr ?_
 refine o1 hr (pA b1 0) fun a hr => ?_
 refine ld (wn rfl) hr (vI p0.Frames) (h.cell 0 rfl) fun a hr => ?_
 refine oo [5, 6] [vB (decide (p0.Frames ≥ 1)), vB (decide (p0.Frames ≥ 1))] hr fun a hr => ?_
 by_cases c2 : p0.Frames ≥ 1
 ·
  replace H := ifT c2 H
  refine onl (decide_eq_true c2) [7] [pA b1 0] hr fun a hr => ?_
  refine ld (wgt hr (decide_eq_true c2)) hr (vI p0.Frames) (h.cell 0 rfl) fun a hr => ?_
  refine onl (decide_eq_true c2) [9] [vB (decide (p0.Frames ≤ 4096))] hr fun a hr => ?_
  refine opv (wn rfl) hr (vB (decide (p0.Frames ≤ 4096))) (rp_t (b := (decide (p0.Frames ≥ 1))) rfl (by kernel_rfl) (decide_eq_true c2) (by kernel_rfl)) fun a hr => ?_
  refine o1 hr (vB (decide (p0.Frames ≤ 4096))) fun a hr => ?_
  by_cases c3 : p0.Frames ≤ 4096
  ·
   replace H := ifT c3 H
   refine onl (decide_eq_true c3) [12] [pA b1 1] hr fun a hr => ?_
   refine ld (wgt hr (decide_eq_true c3)) hr (vI p0.First) (h.cell 1 rfl) fun a hr => ?_
   refine onl (decide_eq_true c3) [14] [vB (decide ((1 : Int) ≤ p0.First))] hr fun a hr => ?_
   refine opv (wn rfl) hr (vB (decide ((1 : Int) ≤ p0.First))) (rp_t (b := (decide (p0.Frames ≤ 4096))) rfl (by kernel_rfl) (decide_eq_true c3) (by kernel_rfl)) fun a hr => ?_
   refine o1 hr (vB (decide ((1 : Int) ≤ p0.First))) fun a hr => ?_
   by_cases c4 : (1 : Int) ≤ p0.First
   ·
    replace H := ifT c4 H
    refine onl (decide_eq_true c4) [17] [pA b1 1] hr fun a hr => ?_
    refine ld (wgt hr (decide_eq_true c4)) hr (vI p0.First) (h.cell 1 rfl) fun a hr => ?_
    refine onl (decide_eq_true c4) [19] [pA b1 2] hr fun a hr => ?_
    refine ld (wgt hr (decide_eq_true c4)) hr (vI p0.Most) (h.cell 2 rfl) fun a hr => ?_
    refine onl (decide_eq_true c4) [21] [vB (decide (p0.First ≤ p0.Most))] hr fun a hr => ?_
    refine opv (wn rfl) hr (vB (decide (p0.First ≤ p0.Most))) (rp_t (b := (decide ((1 : Int) ≤ p0.First))) rfl (by kernel_rfl) (decide_eq_true c4) (by kernel_rfl)) fun a hr => ?_
    refine o1 hr (vB (decide (p0.First ≤ p0.Most))) fun a hr => ?_
    by_cases c5 : p0.First ≤ p0.Most
    ·
     replace H := ifT c5 H
     refine onl (decide_eq_true c5) [24] [pA b1 2] hr fun a hr => ?_
     refine ld (wgt hr (decide_eq_true c5)) hr (vI p0.Most) (h.cell 2 rfl) fun a hr => ?_
     refine onl (decide_eq_true c5) [26] [vB (decide (p0.Most ≤ 4096))] hr fun a hr => ?_
     refine opv (wn rfl) hr (vB (decide (p0.Most ≤ 4096))) (rp_t (b := (decide (p0.First ≤ p0.Most))) rfl (by kernel_rfl) (decide_eq_true c5) (by kernel_rfl)) fun a hr => ?_
     refine o1 hr (vB (decide (p0.Most ≤ 4096))) fun a hr => ?_
     refine ln ?_
     refine wp_ret ?_
     refine end_ret1 (v := vB (decide (p0.Most ≤ 4096))) rfl hr (by kernel_rfl) ?_
     replace H := ej1 H; subst H
     exact ⟨rfl, h.se 1 []⟩
    ·
     replace H := ifF c5 H
     refine offl (decide_eq_false c5) [24, 25, 26] hr fun a hr => ?_
     refine opv (wn rfl) hr (vB false) (rp_f (b := (decide (p0.First ≤ p0.Most))) rfl (by kernel_rfl) (decide_eq_false c5) (by kernel_rfl)) fun a hr => ?_
     refine o1 hr (vB false) fun a hr => ?_
     refine ln ?_
     refine wp_ret ?_
     refine end_ret1 (v := vB false) rfl hr (by kernel_rfl) ?_
     replace H := ej1 H; subst H
     exact ⟨rfl, h.se 1 []⟩
   ·
    replace H := ifF c4 H
    refine offl (decide_eq_false c4) [17, 18, 19, 20, 21] hr fun a hr => ?_
    refine opv (wn rfl) hr (vB false) (rp_f (b := (decide ((1 : Int) ≤ p0.First))) rfl (by kernel_rfl) (decide_eq_false c4) (by kernel_rfl)) fun a hr => ?_
    refine o1 hr (vB false) fun a hr => ?_
    refine offl (rfl : false = false) [24, 25, 26] hr fun a hr => ?_
    refine oo [27, 2] [vB false, vB false] hr fun a hr => ?_
    refine ln ?_
    refine wp_ret ?_
    refine end_ret1 (v := vB false) rfl hr (by kernel_rfl) ?_
    replace H := ej1 H; subst H
    exact ⟨rfl, h.se 1 []⟩
  ·
   replace H := ifF c3 H
   refine offl (decide_eq_false c3) [12, 13, 14] hr fun a hr => ?_
   refine opv (wn rfl) hr (vB false) (rp_f (b := (decide (p0.Frames ≤ 4096))) rfl (by kernel_rfl) (decide_eq_false c3) (by kernel_rfl)) fun a hr => ?_
   refine o1 hr (vB false) fun a hr => ?_
   refine offl (rfl : false = false) [17, 18, 19, 20, 21] hr fun a hr => ?_
   refine oo [22, 23] [vB false, vB false] hr fun a hr => ?_
   refine offl (rfl : false = false) [24, 25, 26] hr fun a hr => ?_
   refine oo [27, 2] [vB false, vB false] hr fun a hr => ?_
   refine ln ?_
   refine wp_ret ?_
   refine end_ret1 (v := vB false) rfl hr (by kernel_rfl) ?_
   replace H := ej1 H; subst H
   exact ⟨rfl, h.se 1 []⟩
 ·
  replace H := ifF c2 H
  refine offl (decide_eq_false c2) [7, 8, 9] hr fun a hr => ?_
  refine opv (wn rfl) hr (vB false) (rp_f (b := (decide (p0.Frames ≥ 1))) rfl (by kernel_rfl) (decide_eq_false c2) (by kernel_rfl)) fun a hr => ?_
  refine o1 hr (vB false) fun a hr => ?_
  refine offl (rfl : false = false) [12, 13, 14] hr fun a hr => ?_
  refine oo [15, 16] [vB false, vB false] hr fun a hr => ?_
  refine offl (rfl : false = false) [17, 18, 19, 20, 21] hr fun a hr => ?_
  refine oo [22, 23] [vB false, vB false] hr fun a hr => ?_
  refine offl (rfl : false = false) [24, 25, 26] hr fun a hr => ?_
  refine oo [27, 2] [vB false, vB false] hr fun a hr => ?_
  refine ln ?_
  refine wp_ret ?_
  refine end_ret1 (v := vB false) rfl hr (by kernel_rfl) ?_
  replace H := ej1 H; subst H
  exact ⟨rfl, h.se 1 []⟩

/-- plunder/worker.refuse -/
def worker_refuse (K : Nat) (p0 : T_api_Program) (p1 : List Int) (p2 : Int) (p3 : T_api_Limits) : Option (Int) :=
  ob1 (prog_Check K p0) (fun r3 => (if r3.Err = 0 then if inr_ (0 : Int) p0.Funcs.length then (if ((p1.length : Nat) : Int) = (at_ p0.Funcs 0).Params then ob1 (worker_counted p2) (fun r8 => (if r8 = true then ob1 (worker_limited p3) (fun r11 => (if r11 = true then some 0 else some 111)) else some 110)) else some 61) else none else some 60))

theorem worker_refuse_ok {z w : World} {L : List HProp} {K : Nat} {p0 : T_api_Program} {p1 : List Int} {p2 r0 : Int} {p3 : T_api_Limits} {va0_Funcs va1 : Option Addr} {vc0_Funcs vc1 : Nat} {hs0_Funcs : Nat → Option Addr × Nat} (H : worker_refuse K p0 p1 p2 p3 = some r0) (h : Fit z (sepL (L)) w) (hv0_Funcs : Rd76 L va0_Funcs hs0_Funcs p0.Funcs) (hv1 : RdRow L 1 encZ_i64 va1 p1) (hg0 : RdRow L 5 enc_T_anon155 (some ⟨0, 0, none⟩) gl0) :
    Calls Tryd.prog 21 #[.agg #[.slice va0_Funcs p0.Funcs.length vc0_Funcs], .slice va1 p1.length vc1, vI p2, ag_T_api_Limits p3] w fun e w => e = .returned (vI r0) ∧ Fit z (sepL (L)) w := by
 unfold worker_refuse at H
 refine enter Tryd.func21 rfl 31 rfl rfl [(0, .agg #[.slice va0_Funcs p0.Funcs.length vc0_Funcs]), (1, .slice va1 p1.length vc1), (2, vI p2), (3, ag_T_api_Limits p3)] ⟨rfl, rfl, rfl, rfl, trivial⟩ ?_
 intro j a hr
 refine sr ?_
 refine onew (wn rfl) hr h nb (#[.slice va0_Funcs p0.Funcs.length vc0_Funcs]) 24 fun b1 w a h hr => ?_
 refine onew (wn rfl) hr h nb (ca_T_api_Limits p3) 27 fun b2 w a h hr => ?_
 refine o1 hr (vI 0) fun a hr => ?_
 refine ln ?_
 refine wp_seq ?_
 refine wp_block ?_
 refine sr ?_
 refine ldm (wn rfl) hr (.agg #[.slice va0_Funcs p0.Funcs.length vc0_Funcs]) (cs := [.slice va0_Funcs p0.Funcs.length vc0_Funcs]) ⟨(h.pick 1).cell 0 rfl, trivial⟩ fun a hr => ?_
 obtain ⟨r3, e4, H⟩ := bd1 H
 have hc := prog_Check_ok (va0_Funcs := va0_Funcs) (vc0_Funcs := vc0_Funcs) (hv0_Funcs := (RdN.up 2 hv0_Funcs)) (hg0 := RdRow.up 2 hg0) (hs0_Funcs := hs0_Funcs) (H := e4) (h := h)
 refine cl (wn rfl) hr hc ?_; clear hc h
 rintro _ w ⟨rfl, h⟩; refine ⟨_, rfl, fun a hr => ?_⟩
 refine oo [12, 13, 9] [vI r3.Err, vB (r3.Err != 0), vB (r3.Err != 0)] hr fun a hr => ?_
 refine ln ?_
 refine cN hr H (fun c5 H => ?_) fun c5 H => ?_
 ·
  refine sr ?_
  refine oo [15, 16, 17] [.slice va1 p1.length vc1, vI ((p1.length : Nat) : Int), pA b1 0] hr fun a hr => ?_
  refine ld (wn rfl) hr (.slice va0_Funcs p0.Funcs.length vc0_Funcs) ((h.pick 1).cell 0 rfl) fun a hr => ?_
  obtain ⟨c6, H⟩ := gd H
  refine opv (wn rfl) hr (pA (blk va0_Funcs) (offs va0_Funcs + 0 * 4)) (ri_rn (k := .i64) (E := 76) (cc := vc0_Funcs) rfl (by kernel_rfl) (by kernel_rfl) rfl (by kernel_rfl) (by kernel_rfl) hv0_Funcs c6) fun a hr => ?_
  refine o1 hr (pA (blk va0_Funcs) (offs va0_Funcs + 0 * 4)) fun a hr => ?_
  refine ld (wn rfl) hr (vI (at_ p0.Funcs 0).Params) (hv0_Funcs.cell c6 (h.dn 2) 0 rfl) fun a hr => ?_
  refine oo [22, 14] [vB (((p1.length : Nat) : Int) != (at_ p0.Funcs 0).Params), vB (((p1.length : Nat) : Int) != (at_ p0.Funcs 0).Params)] hr fun a hr => ?_
  refine ln ?_
  refine cN hr H (fun c7 H => ?_) fun c7 H => ?_
  ·
   refine sr ?_
   obtain ⟨r8, e9, H⟩ := bd1 H
   refine o1 hr (vI p2) fun a hr => ?_
   have hc := worker_counted_ok (H := e9) (h := h)
   refine cl (wn rfl) hr hc ?_; clear hc h
   rintro _ w ⟨rfl, h⟩; refine ⟨_, rfl, fun a hr => ?_⟩
   refine oo [26, 23] [vB (!r8), vB (!r8)] hr fun a hr => ?_
   refine ln ?_
   refine cM hr H (fun c10 H => ?_) fun c10 H => ?_
   ·
    refine sr ?_
    refine ldm (wn rfl) hr (ag_T_api_Limits p3) (cs := cl_T_api_Limits p3) (h.held 0 rfl) fun a hr => ?_
    obtain ⟨r11, e12, H⟩ := bd1 H
    have hc := worker_limited_ok (H := e12) (h := h)
    refine cl (wn rfl) hr hc ?_; clear hc h
    rintro _ w ⟨rfl, h⟩; refine ⟨_, rfl, fun a hr => ?_⟩
    refine oo [30, 27] [vB (!r11), vB (!r11)] hr fun a hr => ?_
    refine ln ?_
    refine cM hr H (fun c13 H => ?_) fun c13 H => ?_
    ·
     refine wp_skip ?_
     refine blk_normal ?_
     refine then_normal ?_
     refine sr ?_
     refine o1 hr (vI 0) fun a hr => ?_
     refine ln ?_
     refine wp_ret ?_
     refine end_ret1 (v := vI 0) rfl hr (by kernel_rfl) ?_
     replace H := ej1 H; subst H
     exact ⟨rfl, h.se 2 []⟩
    ·
     refine sr ?_
     refine o1 hr (vI 111) fun a hr => ?_
     refine ln ?_
     refine wp_ret ?_
     refine blk_ret ?_
     refine then_ret ?_
     refine end_ret1 (v := vI 111) rfl hr (by kernel_rfl) ?_
     replace H := ej1 H; subst H
     exact ⟨rfl, h.se 2 []⟩
   ·
    refine sr ?_
    refine o1 hr (vI 110) fun a hr => ?_
    refine ln ?_
    refine wp_ret ?_
    refine blk_ret ?_
    refine then_ret ?_
    refine end_ret1 (v := vI 110) rfl hr (by kernel_rfl) ?_
    replace H := ej1 H; subst H
    exact ⟨rfl, h.se 2 []⟩
  ·
   refine sr ?_
   refine o1 hr (vI 61) fun a hr => ?_
   refine ln ?_
   refine wp_ret ?_
   refine blk_ret ?_
   refine then_ret ?_
   refine end_ret1 (v := vI 61) rfl hr (by kernel_rfl) ?_
   replace H := ej1 H; subst H
   exact ⟨rfl, h.se 2 []⟩
 ·
  refine sr ?_
  refine o1 hr (vI 60) fun a hr => ?_
  refine ln ?_
  refine wp_ret ?_
  refine blk_ret ?_
  refine then_ret ?_
  refine end_ret1 (v := vI 60) rfl hr (by kernel_rfl) ?_
  replace H := ej1 H; subst H
  exact ⟨rfl, h.se 2 []⟩

def worker_World_lay_l1 (K : Nat) (p0 : T_worker_World) (p1 : Int) (p2 : T_api_Limits) (r14 : Int) (r23 : T_frames_Table) (r32 : T_park_Lot) : Nat → T_cells_Arena → (List T_deque_Deque) → Int → Option ((T_cells_Arena × (List T_deque_Deque)) ⊕ (Int × T_worker_World × T_cells_Arena))
  | 0, _, _, _ => none
  | k1 + 1, S51, l58, g59 => (if g59 < p1 then ob3 (deque_New_iface S51 p2.First p2.Most) (fun r61 r62 S63 => (if r62 = 0 then if (l58.length + 1) * 16 ≤ 140737488355328 then (worker_World_lay_l1 K p0 p1 p2 r14 r23 r32 k1 S63 (l58 ++ [r61]) (wi (g59 + 1))) else none else some (.inr (r62, (⟨p0.code, r14, r23.Base, r23.Frames, r32.Base, r32.Workers, l58, p0.tasks, p0.workers, p0.value, p0.left⟩ : T_worker_World), S63)))) else some (.inl (S51, l58)))
/-- (*plunder/worker.World).lay -/
def worker_World_lay (K : Nat) (p0 : T_worker_World) (p0_m : T_cells_Arena) (p1 : Int) (p2 : T_api_Limits) : Option (Int × T_worker_World × T_cells_Arena) :=
  ob3 (cells_Arena_Reserve p0_m 1) (fun r14 r15 S16 => (if r15 = 0 then ob3 (frames_New_iface K S16 p2.Frames) (fun r23 r24 S25 => (if r24 = 0 then ob3 (park_New_iface S25 p1) (fun r32 r33 S34 => (if r33 = 0 then jn2 ((worker_World_lay_l1 K p0 p1 p2 r14 r23 r32 K S34 p0.deques 0)) (fun S41 l48 => ob1 (frames_Alloc r23) (fun r75 => ob2 (frames_Step_iface S41 r75) (fun r77 S78 => ob2 (frames_Answer r77) (fun r84 r85 => (if r84 = 4 then some (0, (⟨p0.code, r14, r23.Base, r23.Frames, r32.Base, r32.Workers, l48, p0.tasks, p0.workers, p0.value, p0.left⟩ : T_worker_World), S78) else some (22, (⟨p0.code, r14, r23.Base, r23.Frames, r32.Base, r32.Workers, l48, p0.tasks, p0.workers, p0.value, p0.left⟩ : T_worker_World), S78)))))) else some (r33, { p0 with result := r14, table_Base := r23.Base, table_Frames := r23.Frames, lot_Base := r32.Base, lot_Workers := r32.Workers }, S34))) else some (r24, { p0 with result := r14, table_Base := r23.Base, table_Frames := r23.Frames }, S25))) else some (r15, { p0 with result := r14 }, S16)))

theorem worker_World_lay_ok {z w : World} {L : List HProp} {K : Nat} {p0 q0 : T_worker_World} {p0_m q0_m : T_cells_Arena} {p1 r0 : Int} {p2 : T_api_Limits} {B0 B0_m cc2 cc4 cc6 cc8 cc10 cc12 : Nat} {ca1 ca3 ca5 ca7 ca9 ca11 : Option Addr} (H : worker_World_lay K p0 p0_m p1 p2 = some (r0, q0, q0_m)) (h : Fit z (sepL (ob73 B0 p0 (.iface 37 (pA B0_m 0)) ca5 cc6 ca7 cc8 ca9 cc10 ca11 cc12 :: rn76 ca5 cc6 p0.code :: ro84 ca7 cc8 p0.deques :: ro80 ca9 cc10 p0.tasks :: ro97 B0 ca11 cc12 p0.workers :: ob102 B0_m p0_m ca1 cc2 ca3 cc4 :: ro2 ca1 cc2 p0_m.cell :: ro111 ca3 cc4 p0_m.log :: L)) w)  :
    Calls Tryd.prog 22 #[pA B0 0, vI p1, ag_T_api_Limits p2] w fun e w => ∃ caq0_1 ccq0_2 caq0_3 ccq0_4 caq0_5 ccq0_6 caq0_7 ccq0_8 caq0_m_1 ccq0_m_2 caq0_m_3 ccq0_m_4, e = .returned (vI r0) ∧ Fit z (sepL (ob73 B0 q0 (.iface 37 (pA B0_m 0)) caq0_1 ccq0_2 caq0_3 ccq0_4 caq0_5 ccq0_6 caq0_7 ccq0_8 :: rn76 caq0_1 ccq0_2 q0.code :: ro84 caq0_3 ccq0_4 q0.deques :: ro80 caq0_5 ccq0_6 q0.tasks :: ro97 B0 caq0_7 ccq0_8 q0.workers :: ob102 B0_m q0_m caq0_m_1 ccq0_m_2 caq0_m_3 ccq0_m_4 :: ro2 caq0_m_1 ccq0_m_2 q0_m.cell :: ro111 caq0_m_3 ccq0_m_4 q0_m.log :: L)) w := by
 unfold worker_World_lay at H
 refine enter Tryd.func22 rfl 101 rfl rfl [(0, pA B0 0), (1, vI p1), (2, ag_T_api_Limits p2)] ⟨rfl, rfl, rfl, trivial⟩ ?_
 intro j a hr
 refine sr ?_
 refine onew (wn rfl) hr h nb (ca_T_api_Limits p2) 27 fun b13 w a h hr => ?_
 refine o1 hr (vI 0) fun a hr => ?_
 refine ln ?_
 refine wp_seq ?_
 refine sr ?_
 refine oo [12, 13, 14, 15] [pA B0 0, pA B0 0, pA B0 0, pA B0 0] hr fun a hr => ?_
 refine ld (wn rfl) hr (.iface 37 (pA B0_m 0)) ((h.pick 1).cell 0 rfl) fun a hr => ?_
 obtain ⟨r14, r15, S16, e17, H⟩ := bd3 H
 replace h := h.m8.m8.m8
 have hc := cells_Arena_Reserve_ok (H := e17) (h := h)
 refine cl (wn rfl) hr hc ?_; clear hc h
 rintro _ w ⟨caq18, ccq19, caq20, ccq21, rfl, h⟩; refine ⟨_, rfl, fun a hr => ?_⟩
 refine oo [11, 18, 19, 20, 21] [.tuple #[vI r14, vI r15], vI r14, vI r15, pA B0 0, pA B0 2] hr fun a hr => ?_
 replace h := h.m4
 refine st1 (wn rfl) hr h 2 (vI r14) (pts B0 (.cells #[.iface 37 (pA B0_m 0), .slice ca5 p0.code.length cc6, vI r14, vI p0.table_Base, vI p0.table_Frames, vI p0.lot_Base, vI p0.lot_Workers, .slice ca7 p0.deques.length cc8, .slice ca9 p0.tasks.length cc10, .slice ca11 p0.workers.length cc12, vI p0.value, vB p0.left] 73)) fun w h => ?_
 refine o1 hr (vI r15) fun a hr => ?_
 refine ln ?_
 refine sr ?_
 refine oo [22, 23] [vI r15, vB (r15 != 0)] hr fun a hr => ?_
 refine ln ?_
 refine cN hr H (fun c22 H => ?_) fun c22 H => ?_
 ·
  refine wp_skip ?_
  refine then_normal ?_
  refine wp_seq ?_
  refine wp_seq ?_
  obtain ⟨r23, r24, S25, e26, H⟩ := bd3 H
  refine regL [(B0, 0, [.iface 37 (pA B0_m 0)]), (b13, 0, [vI p2.Frames])] [2, 3, 5] 15 h (fun h => ⟨⟨h.cell 0 rfl, trivial⟩, ⟨(h.pick 4).cell 0 rfl, trivial⟩, trivial⟩) fun w h hd => ?_
  refine evs' hd 10 [(0, 26, pA B0 0), (1, 27, pA B0 0), (2, 28, pA B0 0), (3, 29, pA B0 0), (5, 31, pA b13 0)] hr fun a hr => ?_
  refine elx hd 0 9 4 hr (wn rfl) rfl rfl fun a hr => ?_
  refine elx hd 1 8 6 hr (wn rfl) rfl rfl fun a hr => ?_
  refine eo1 7 rfl ?_
  replace h := h.m3.m3.m3
  have hc := frames_New_iface_ok (H := e26) (h := h)
  refine cl (wn rfl) hr hc ?_; clear hc h
  rintro _ w ⟨caq27, ccq28, caq29, ccq30, rfl, h⟩; refine ⟨_, rfl, fun a hr => ?_⟩
  refine ln ?_
  refine xE ?_
  refine evs 6 8 rfl (wn rfl) hr (.tuple #[ag_T_frames_Table r23, vI r24]) fun a hr => ?_
  refine evs 5 9 rfl (wn rfl) hr (ag_T_frames_Table r23) fun a hr => ?_
  refine evs 4 10 rfl (wn rfl) hr (vI r24) fun a hr => ?_
  refine evs 3 11 rfl (wn rfl) hr (pA B0 0) fun a hr => ?_
  refine evs 2 12 rfl (wn rfl) hr (pA B0 3) fun a hr => ?_
  refine eo1 13 rfl ?_
  replace h := h.m3
  refine stm (wn rfl) hr h 3 (cl_T_frames_Table r23) (pts B0 (.cells #[.iface 37 (pA B0_m 0), .slice ca5 p0.code.length cc6, vI r14, vI r23.Base, vI r23.Frames, vI p0.lot_Base, vI p0.lot_Workers, .slice ca7 p0.deques.length cc8, .slice ca9 p0.tasks.length cc10, .slice ca11 p0.workers.length cc12, vI p0.value, vB p0.left] 73)) fun w h => ?_
  refine ln ?_
  refine xE ?_
  refine evs 0 14 rfl (wn rfl) hr (vI r24) fun a hr => ?_
  refine een ?_
  refine then_normal ?_
  refine sr ?_
  refine oo [38, 39] [vI r24, vB (r24 != 0)] hr fun a hr => ?_
  refine ln ?_
  refine cN hr H (fun c31 H => ?_) fun c31 H => ?_
  ·
   refine wp_skip ?_
   refine then_normal ?_
   refine wp_seq ?_
   refine sr ?_
   refine oo [42, 43, 44, 45] [pA B0 0, pA B0 0, pA B0 0, pA B0 0] hr fun a hr => ?_
   refine ld (wn rfl) hr (.iface 37 (pA B0_m 0)) (h.cell 0 rfl) fun a hr => ?_
   obtain ⟨r32, r33, S34, e35, H⟩ := bd3 H
   refine o1 hr (vI p1) fun a hr => ?_
   replace h := h.m3.m3.m3
   have hc := park_New_iface_ok (H := e35) (h := h)
   refine cl (wn rfl) hr hc ?_; clear hc h
   rintro _ w ⟨caq36, ccq37, caq38, ccq39, rfl, h⟩; refine ⟨_, rfl, fun a hr => ?_⟩
   refine oo [41, 49, 50, 51, 52] [.tuple #[ag_T_park_Lot r32, vI r33], ag_T_park_Lot r32, vI r33, pA B0 0, pA B0 5] hr fun a hr => ?_
   replace h := h.m3
   refine stm (wn rfl) hr h 5 (cl_T_park_Lot r32) (pts B0 (.cells #[.iface 37 (pA B0_m 0), .slice ca5 p0.code.length cc6, vI r14, vI r23.Base, vI r23.Frames, vI r32.Base, vI r32.Workers, .slice ca7 p0.deques.length cc8, .slice ca9 p0.tasks.length cc10, .slice ca11 p0.workers.length cc12, vI p0.value, vB p0.left] 73)) fun w h => ?_
   refine o1 hr (vI r33) fun a hr => ?_
   refine ln ?_
   refine sr ?_
   refine oo [53, 54] [vI r33, vB (r33 != 0)] hr fun a hr => ?_
   refine ln ?_
   refine cN hr H (fun c40 H => ?_) fun c40 H => ?_
   ·
    refine wp_skip ?_
    refine then_normal ?_
    obtain ⟨o50, H, hK49⟩ := jd2 H
    refine cut_rule (β := Unit) (fun _ a w => ∃ ca42 : Option Addr, ∃ cc43 : Nat, ∃ ca44 : Option Addr, ∃ cc45 : Nat, ∃ ca46 : Option Addr, ∃ cc47 : Nat, ∃ S41 : T_cells_Arena, ∃ l48 : List T_deque_Deque, .inl (S41, l48) = o50 ∧ ∃ j, Rep 101 (lk [(0, pA B0 0)] j) a ∧ Fit z (sepL (pts B0 (.cells #[.iface 37 (pA B0_m 0), .slice ca5 p0.code.length cc6, vI r14, vI r23.Base, vI r23.Frames, vI r32.Base, vI r32.Workers, .slice ca46 l48.length cc47, .slice ca9 p0.tasks.length cc10, .slice ca11 p0.workers.length cc12, vI p0.value, vB p0.left] 73) :: ob102 B0_m S41 ca42 cc43 ca44 cc45 :: ro2 ca42 cc43 S41.cell :: ro111 ca44 cc45 S41.log :: rn76 ca5 cc6 p0.code :: ro84 ca46 cc47 l48 :: ro80 ca9 cc10 p0.tasks :: ro97 B0 ca11 cc12 p0.workers :: L)) w) ?_ ?_
    ·
     refine sr ?_
     refine oo [56, 57] [vI p1, vI 0] hr fun a hr => ?_
     refine ln ?_
     refine wp_block ?_
     refine loop_rule (β := Nat) id (fun m a w => ∃ ca52 : Option Addr, ∃ cc53 : Nat, ∃ ca54 : Option Addr, ∃ cc55 : Nat, ∃ ca56 : Option Addr, ∃ cc57 : Nat, ∃ S51 : T_cells_Arena, ∃ l58 : List T_deque_Deque, ∃ g59 : Int, (worker_World_lay_l1 K p0 p1 p2 r14 r23 r32 m S51 l58 g59) = some o50 ∧ ∃ j, Rep 101 (lk [(0, pA B0 0), (5, pA b13 0), (56, vI p1), (57, vI g59)] j) a ∧ Fit z (sepL (pts B0 (.cells #[.iface 37 (pA B0_m 0), .slice ca5 p0.code.length cc6, vI r14, vI r23.Base, vI r23.Frames, vI r32.Base, vI r32.Workers, .slice ca56 l58.length cc57, .slice ca9 p0.tasks.length cc10, .slice ca11 p0.workers.length cc12, vI p0.value, vB p0.left] 73) :: ob102 B0_m S51 ca52 cc53 ca54 cc55 :: ro2 ca52 cc53 S51.cell :: ro111 ca54 cc55 S51.log :: rn76 ca5 cc6 p0.code :: ro84 ca56 cc57 l58 :: ro80 ca9 cc10 p0.tasks :: ro97 B0 ca11 cc12 p0.workers :: ob27 b13 p2 :: L)) w) K ⟨caq36, ccq37, caq38, ccq39, ca7, cc8, S34, p0.deques, 0, H, hr.fj (h.se 9 [0, 1, 2, 3, 5, 6, 7, 8, 4])⟩ ?_
     clear h hr a H; rintro k1 a w ⟨ca52, cc53, ca54, cc55, ca56, cc57, S51, l58, g59, H, j, hr, h⟩
     cases k1 with
     | zero => exact absurd H (by simp [worker_World_lay_l1])
     | succ k1 =>
      rw [worker_World_lay_l1] at H
      refine sr ?_
      refine o1 hr (vB (decide (g59 < p1))) fun a hr => ?_
      refine ln ?_
      refine wp_seq ?_
      refine cD hr H (fun c60 H => ?_) fun c60 H => ?_
      ·
       refine wp_skip ?_
       refine then_normal ?_
       refine wp_seq ?_
       refine wp_block ?_
       refine wp_seq ?_
       obtain ⟨r61, r62, S63, e64, H⟩ := bd3 H
       refine cut_mid (fun a w => ∃ caq65 : Option Addr, ∃ ccq66 : Nat, ∃ caq67 : Option Addr, ∃ ccq68 : Nat, ∃ b69 : Nat, ∃ j, Rep 101 (lk [(0, pA B0 0), (5, pA b13 0), (7, pA b69 0), (8, vI r62), (56, vI p1), (57, vI g59)] j) a ∧ Fit z (sepL (pts B0 (.cells #[.iface 37 (pA B0_m 0), .slice ca5 p0.code.length cc6, vI r14, vI r23.Base, vI r23.Frames, vI r32.Base, vI r32.Workers, .slice ca56 l58.length cc57, .slice ca9 p0.tasks.length cc10, .slice ca11 p0.workers.length cc12, vI p0.value, vB p0.left] 73) :: ob102 B0_m S63 caq65 ccq66 caq67 ccq68 :: ro2 caq65 ccq66 S63.cell :: ro111 caq67 ccq68 S63.log :: rn76 ca5 cc6 p0.code :: ro84 ca56 cc57 l58 :: ro80 ca9 cc10 p0.tasks :: ro97 B0 ca11 cc12 p0.workers :: ob27 b13 p2 :: ob84 b69 r61 :: L)) w) ?_ ?_
       ·
        refine regL [(B0, 0, [.iface 37 (pA B0_m 0)]), (b13, 1, [vI p2.First]), (b13, 2, [vI p2.Most])] [1, 2, 4, 6] 15 h (fun h => ⟨⟨h.cell 0 rfl, trivial⟩, ⟨(h.pick 8).cell 1 rfl, trivial⟩, ⟨(h.pick 8).cell 2 rfl, trivial⟩, trivial⟩) fun w h hd => ?_
        refine evs' hd 10 [(0, 60, pA B0 0), (1, 61, pA B0 0), (2, 62, pA B0 0), (4, 64, pA b13 1), (6, 66, pA b13 2)] hr fun a hr => ?_
        refine elx hd 0 9 3 hr (wn rfl) rfl rfl fun a hr => ?_
        refine elx hd 1 8 5 hr (wn rfl) rfl rfl fun a hr => ?_
        refine elx hd 2 7 7 hr (wn rfl) rfl rfl fun a hr => ?_
        refine e_each (fuel := 6) [8, 12] (by kernel_rfl) rfl (vall_cons ⟨_, rfl, ?_⟩ (vall_cons ⟨_, rfl, ?_⟩ (vall_nil)))
        ·
         replace h := h.m3.m3.m3
         have hc := deque_New_iface_ok (H := e64) (h := h)
         refine cl (wn rfl) hr hc ?_; clear hc h
         rintro _ w ⟨caq65, ccq66, caq67, ccq68, rfl, h⟩; refine ⟨_, rfl, fun a hr => ?_⟩
         refine ln ?_
         refine xE ?_
         refine evs 5 9 rfl (wn rfl) hr (.tuple #[ag_T_deque_Deque r61, vI r62]) fun a hr => ?_
         refine evs 4 10 rfl (wn rfl) hr (ag_T_deque_Deque r61) fun a hr => ?_
         refine evs 3 11 rfl (wn rfl) hr (vI r62) fun a hr => ?_
         refine eo1 12 rfl ?_
         refine onew (wn rfl) hr h nb (#[vI 0, vI 0]) 84 fun b69 w a h hr => ?_
         refine ln ?_
         refine xE ?_
         refine eo1 13 rfl ?_
         refine stm (wn rfl) hr h 0 (cl_T_deque_Deque r61) (ob84 b69 r61) fun w h => ?_
         refine ln ?_
         refine xE ?_
         refine evs 0 14 rfl (wn rfl) hr (vI r62) fun a hr => ?_
         refine een ?_
         exact ⟨caq65, ccq66, caq67, ccq68, b69, hr.fj (h.se 10 [4, 1, 2, 3, 5, 6, 7, 8, 9, 0])⟩
        ·
         refine onew (wn rfl) hr h nb (#[vI 0, vI 0]) 84 fun b69 w a h hr => ?_
         refine ln ?_
         refine xE ?_
         refine eo1 8 rfl ?_
         replace h := h.m4.m4.m4
         have hc := deque_New_iface_ok (H := e64) (h := h)
         refine cl (wn rfl) hr hc ?_; clear hc h
         rintro _ w ⟨caq65, ccq66, caq67, ccq68, rfl, h⟩; refine ⟨_, rfl, fun a hr => ?_⟩
         refine ln ?_
         refine xE ?_
         refine evs 4 9 rfl (wn rfl) hr (.tuple #[ag_T_deque_Deque r61, vI r62]) fun a hr => ?_
         refine evs 3 10 rfl (wn rfl) hr (ag_T_deque_Deque r61) fun a hr => ?_
         refine evs 2 11 rfl (wn rfl) hr (vI r62) fun a hr => ?_
         refine eo1 13 rfl ?_
         replace h := h.m3
         refine stm (wn rfl) hr h 0 (cl_T_deque_Deque r61) (ob84 b69 r61) fun w h => ?_
         refine ln ?_
         refine xE ?_
         refine evs 0 14 rfl (wn rfl) hr (vI r62) fun a hr => ?_
         refine een ?_
         exact ⟨caq65, ccq66, caq67, ccq68, b69, hr.fj (h.se 10 [4, 1, 2, 3, 5, 6, 7, 8, 9, 0])⟩
       clear h hr a; rintro a w ⟨caq65, ccq66, caq67, ccq68, b69, j, hr, h⟩
       refine then_normal ?_
       refine wp_seq ?_
       refine sr ?_
       refine oo [71, 72] [vI r62, vB (r62 != 0)] hr fun a hr => ?_
       refine ln ?_
       refine cN hr H (fun c70 H => ?_) fun c70 H => ?_
       ·
        refine wp_skip ?_
        refine then_normal ?_
        obtain ⟨c74, H⟩ := gd H
        refine regL [(B0, 7, [.slice ca56 l58.length cc57]), (b69, 0, cl_T_deque_Deque r61)] [2, 3] 11 h (fun h => ⟨⟨h.cell 7 rfl, trivial⟩, ((h.pick 9).held 0 rfl), trivial⟩) fun w h hd => ?_
        refine evs' hd 7 [(0, 74, pA B0 0), (1, 75, pA B0 0), (2, 76, pA B0 0), (3, 77, pA B0 7)] hr fun a hr => ?_
        refine elx hd 0 6 4 hr (wn rfl) rfl rfl fun a hr => ?_
        refine elm hd 1 5 5 hr (wn rfl) rfl rfl fun a hr => ?_
        refine eo1 6 rfl ?_
        refine onew (wn rfl) hr h (fun b => .slice (some ⟨b, 0, none⟩) 1 1) (ca_T_deque_Deque r61) 84 fun b71 w a h hr => ?_
        refine ln ?_
        refine xE ?_
        refine eo1 7 rfl ?_
        replace h := h.m6
        refine op_append (n0 := l58.length) (c := 1) (bytes := 16) (wn rfl) rfl rfl hr rfl (by kernel_rfl) (by kernel_rfl) enc_T_deque_Deque_ok (E := 84) (xs := l58) (by kernel_rfl) (by kernel_rfl) h (news := [r61]) (m := 1) rfl ((h.pick 1).news rfl) c74 rfl fun ca72 cc73 w a h hr => ?_
        refine ln ?_
        refine xE ?_
        refine evs 2 8 rfl (wn rfl) hr (pA B0 0) fun a hr => ?_
        refine evs 1 9 rfl (wn rfl) hr (pA B0 7) fun a hr => ?_
        refine eo1 10 rfl ?_
        replace h := h.m2
        refine st1 (wn rfl) hr h 7 (.slice ca72 (l58 ++ [r61]).length cc73) (pts B0 (.cells #[.iface 37 (pA B0_m 0), .slice ca5 p0.code.length cc6, vI r14, vI r23.Base, vI r23.Frames, vI r32.Base, vI r32.Workers, .slice ca72 (l58 ++ [r61]).length cc73, .slice ca9 p0.tasks.length cc10, .slice ca11 p0.workers.length cc12, vI p0.value, vB p0.left] 73)) fun w h => ?_
        refine ln ?_
        refine xE ?_
        refine een ?_
        refine blk_normal ?_
        refine then_normal ?_
        refine wp_region_lit ?_
        refine oo [84, 57] [vI (wi (g59 + 1)), vI (wi (g59 + 1))] hr fun a hr => ?_
        refine ln ?_
        exact ⟨_, ⟨caq65, ccq66, caq67, ccq68, ca72, cc73, S63, (l58 ++ [r61]), (wi (g59 + 1)), H, hr.fj (h.se 11 [0, 3, 4, 5, 6, 1, 7, 8, 9])⟩, Nat.lt_succ_self _⟩
       ·
        refine sr ?_
        refine oo [73, 6] [vI r62, vI r62] hr fun a hr => ?_
        refine ln ?_
        refine wp_ret ?_
        refine then_ret ?_
        refine blk_ret ?_
        refine then_ret ?_
        refine then_ret ?_
        refine blk_ret ?_
        refine then_ret ?_
        refine end_ret1 (v := vI r62) rfl hr (by kernel_rfl) ?_
        replace H := jx2 H hK49
        obtain ⟨rfl, rfl, rfl⟩ := ej3 H
        exact ⟨ca5, cc6, ca56, cc57, ca9, cc10, ca11, cc12, caq65, ccq66, caq67, ccq68, rfl, h.se 10 [0, 4, 5, 6, 7, 1, 2, 3]⟩
      ·
       refine wp_exit ?_
       refine then_exit ?_
       refine then_exit ?_
       refine blk_here ?_
       refine then_normal ?_
       exact ⟨(), ca52, cc53, ca54, cc55, ca56, cc57, S51, l58, sinj H, hr.fj (h.se 9 [0, 1, 2, 3, 4, 5, 6, 7])⟩
    clear h hr a; rintro _ a w ⟨ca42, cc43, ca44, cc45, ca46, cc47, S41, l48, rfl, j, hr, h⟩
    replace H := jk2 hK49
    refine wp_seq ?_
    refine wp_seq ?_
    obtain ⟨r75, e76, H⟩ := bd1 H
    obtain ⟨r77, S78, e79, H⟩ := bd2 H
    obtain ⟨r84, r85, e86, H⟩ := bd2 H
    refine regL [(B0, 0, [.iface 37 (pA B0_m 0)]), (B0, 3, cl_T_frames_Table r23)] [1, 2, 5, 6, 8] 16 h (fun h => ⟨⟨h.cell 0 rfl, trivial⟩, (h.held 3 rfl), trivial⟩) fun w h hd => ?_
    refine evs' hd 10 [(0, 86, pA B0 0), (1, 87, pA B0 0), (2, 88, pA B0 0), (4, 90, pA B0 0), (5, 91, pA B0 0), (6, 92, pA B0 3)] hr fun a hr => ?_
    refine elx hd 0 9 3 hr (wn rfl) rfl rfl fun a hr => ?_
    refine elm hd 1 8 7 hr (wn rfl) rfl rfl fun a hr => ?_
    refine eo1 8 rfl ?_
    have hc := frames_Alloc_ok (H := e76) (h := h)
    refine cl (wn rfl) hr hc ?_; clear hc h
    rintro _ w ⟨rfl, h⟩; refine ⟨_, rfl, fun a hr => ?_⟩
    refine ln ?_
    refine eE ⟨⟨h.cell 0 rfl, trivial⟩, (h.held 3 rfl), trivial⟩ fun hd => ?_
    refine eo1 9 rfl ?_
    replace h := h.m3.m3.m3
    have hc := frames_Step_iface_ok (H := e79) (h := h)
    refine cl (wn rfl) hr hc ?_; clear hc h
    rintro _ w ⟨caq80, ccq81, caq82, ccq83, rfl, h⟩; refine ⟨_, rfl, fun a hr => ?_⟩
    refine ln ?_
    refine xE ?_
    refine eo1 10 rfl ?_
    have hc := frames_Answer_ok (H := e86) (h := h)
    refine cl (wn rfl) hr hc ?_; clear hc h
    rintro _ w ⟨rfl, h⟩; refine ⟨_, rfl, fun a hr => ?_⟩
    refine ln ?_
    refine xE ?_
    refine evs 4 11 rfl (wn rfl) hr (.tuple #[vI r84, vI r85]) fun a hr => ?_
    refine evs 3 12 rfl (wn rfl) hr (vI r84) fun a hr => ?_
    refine evs 2 13 rfl (wn rfl) hr (vI r85) fun a hr => ?_
    refine evs 1 14 rfl (wn rfl) hr (vI r84) fun a hr => ?_
    refine evs 0 15 rfl (wn rfl) hr (vI r85) fun a hr => ?_
    refine een ?_
    refine then_normal ?_
    refine sr ?_
    refine oo [99, 100] [vI r84, vB (r84 != 4)] hr fun a hr => ?_
    refine ln ?_
    refine cN hr H (fun c87 H => ?_) fun c87 H => ?_
    ·
     refine wp_skip ?_
     refine then_normal ?_
     refine sr ?_
     refine o1 hr (vI 0) fun a hr => ?_
     refine ln ?_
     refine wp_ret ?_
     refine end_ret1 (v := vI 0) rfl hr (by kernel_rfl) ?_
     obtain ⟨rfl, rfl, rfl⟩ := ej3 H
     exact ⟨ca5, cc6, ca46, cc47, ca9, cc10, ca11, cc12, caq80, ccq81, caq82, ccq83, rfl, h.se 8 [3, 4, 5, 6, 7, 0, 1, 2]⟩
    ·
     refine sr ?_
     refine o1 hr (vI 22) fun a hr => ?_
     refine ln ?_
     refine wp_ret ?_
     refine then_ret ?_
     refine end_ret1 (v := vI 22) rfl hr (by kernel_rfl) ?_
     obtain ⟨rfl, rfl, rfl⟩ := ej3 H
     exact ⟨ca5, cc6, ca46, cc47, ca9, cc10, ca11, cc12, caq80, ccq81, caq82, ccq83, rfl, h.se 8 [3, 4, 5, 6, 7, 0, 1, 2]⟩
   ·
    refine sr ?_
    refine oo [55, 6] [vI r33, vI r33] hr fun a hr => ?_
    refine ln ?_
    refine wp_ret ?_
    refine then_ret ?_
    refine end_ret1 (v := vI r33) rfl hr (by kernel_rfl) ?_
    obtain ⟨rfl, rfl, rfl⟩ := ej3 H
    exact ⟨ca5, cc6, ca7, cc8, ca9, cc10, ca11, cc12, caq36, ccq37, caq38, ccq39, rfl, h.se 9 [0, 5, 6, 7, 8, 1, 2, 3]⟩
  ·
   refine sr ?_
   refine oo [40, 6] [vI r24, vI r24] hr fun a hr => ?_
   refine ln ?_
   refine wp_ret ?_
   refine then_ret ?_
   refine end_ret1 (v := vI r24) rfl hr (by kernel_rfl) ?_
   obtain ⟨rfl, rfl, rfl⟩ := ej3 H
   exact ⟨ca5, cc6, ca7, cc8, ca9, cc10, ca11, cc12, caq27, ccq28, caq29, ccq30, rfl, h.se 9 [0, 5, 6, 7, 8, 1, 2, 3]⟩
 ·
  refine sr ?_
  refine oo [24, 6] [vI r15, vI r15] hr fun a hr => ?_
  refine ln ?_
  refine wp_ret ?_
  refine then_ret ?_
  refine end_ret1 (v := vI r15) rfl hr (by kernel_rfl) ?_
  obtain ⟨rfl, rfl, rfl⟩ := ej3 H
  exact ⟨ca5, cc6, ca7, cc8, ca9, cc10, ca11, cc12, caq18, ccq19, caq20, ccq21, rfl, h.se 9 [0, 5, 6, 7, 8, 1, 2, 3]⟩

def worker_New_iface_l1 (K : Nat) (p1 : T_api_Program) : Nat → (List T_api_Func) → Int → Option ((List T_api_Func))
  | 0, _, _ => none
  | k1 + 1, l20, g21 => (if g21 < ((p1.Funcs.length : Nat) : Int) then if inr_ g21 p1.Funcs.length then if (([] : List T_api_Instr).length + (at_ p1.Funcs g21.toNat).Code.length) * 40 ≤ 140737488355328 then if (l20.length + 1) * 48 ≤ 140737488355328 then (worker_New_iface_l1 K p1 k1 (l20 ++ [{ at_ p1.Funcs g21.toNat with Code := ([] : List T_api_Instr) ++ (at_ p1.Funcs g21.toNat).Code }]) (wi (g21 + 1))) else none else none else none else some l20)
def worker_New_iface_l2 (K : Nat) (p3 : Int) : Nat → (List T_worker_actor) → Int → Option ((List T_worker_actor))
  | 0, _, _ => none
  | k2 + 1, l59, g60 => (if g60 < p3 then if (l59.length + 1) * 1504 ≤ 140737488355328 then (worker_New_iface_l2 K p3 k2 (l59 ++ [(⟨g60, 9, -1, 0, 0, 0, 0, 0, (⟨0, 0, 0, 0, 0, 0, 0, 0, 0, 0, 0, 0, 0, false, 0, 0⟩ : T_deque_Op), (⟨0, 0, 0, 0, 0, 0, 0, 0, 0⟩ : T_frames_Op), (⟨0, 0, 0, 0, 0, 0, 0, 0, 0, List.replicate 64 (⟨0, 0⟩ : T_deque_Deque), (⟨0, 0, 0, 0, 0, 0, 0, 0, 0, 0, 0, 0, 0, false, 0, 0⟩ : T_deque_Op)⟩ : T_park_Op), false⟩ : T_worker_actor)]) (wi (g60 + 1))) else none else some l59)
/-- plunder/worker.New -/
def worker_New_iface (K : Nat) (p0 : T_cells_Arena) (p1 : T_api_Program) (p2 : List Int) (p3 : Int) (p4 : T_api_Limits) : Option ((Option T_worker_World) × Int × T_cells_Arena) :=
  ob1 (worker_refuse K p1 p2 p3 p4) (fun r7 => (if r7 = 0 then if 0 ≤ p4.Frames ∧ p4.Frames * 176 ≤ 140737488355328 then ob1 ((worker_New_iface_l1 K p1 K ([] : List T_api_Func) 0)) (fun l15 => ob3 (worker_World_lay K (⟨l15, 0, 0, 0, 0, 0, ([] : List T_deque_Deque), List.replicate p4.Frames.toNat (⟨0, 0, 0, 0, 0, 0, List.replicate 16 (0 : Int)⟩ : T_worker_task), ([] : List T_worker_actor), 0, false⟩ : T_worker_World) p0 p3 p4) (fun r32 S33 S34 => (if r32 = 0 then if inr_ (0 : Int) S33.tasks.length then if inr_ (0 : Int) (S33.tasks.set 0 (⟨0, 0, -1, 0, 0, 1, (List.replicate 16 (0 : Int))⟩ : T_worker_task)).length then if p2.length ≤ 16 then ob1 ((worker_New_iface_l2 K p3 K S33.workers 0)) (fun l54 => if inr_ (0 : Int) l54.length then some (some ({ S33 with tasks := (S33.tasks.set 0 (⟨0, 0, -1, 0, 0, 1, (List.replicate 16 (0 : Int))⟩ : T_worker_task)).set 0 ({ (⟨0, 0, -1, 0, 0, 1, (List.replicate 16 (0 : Int))⟩ : T_worker_task) with regs := cpA 16 p2 (⟨0, 0, -1, 0, 0, 1, (List.replicate 16 (0 : Int))⟩ : T_worker_task).regs }), workers := ((l54.set 0 ({ at_ l54 0 with frame := 0 })).set 0 ({ { at_ l54 0 with frame := 0 } with from_ := -1 })).set 0 ({ { { at_ l54 0 with frame := 0 } with from_ := -1 } with about := 0 }) }), 0, S34) else none) else none else none else none else some (none, r32, S34)))) else none else some (none, r7, p0)))

theorem worker_New_iface_ok0 {z w : World} {L : List HProp} {K : Nat} {p0 q0 : T_cells_Arena} {p1 : T_api_Program} {p2 : List Int} {p3 r1 : Int} {p4 : T_api_Limits} {B0 cc2 cc4 vc1_Funcs vc2 : Nat} {ca1 ca3 va1_Funcs va2 : Option Addr} {hs1_Funcs : Nat → Option Addr × Nat} {r0 : T_worker_World} (H : worker_New_iface K p0 p1 p2 p3 p4 = some ((some r0), r1, q0)) (h : Fit z (sepL (ob102 B0 p0 ca1 cc2 ca3 cc4 :: ro2 ca1 cc2 p0.cell :: ro111 ca3 cc4 p0.log :: L)) w) (hv1_Funcs : Rd76 L va1_Funcs hs1_Funcs p1.Funcs) (hv2 : RdRow L 1 encZ_i64 va2 p2) (hg0 : RdRow L 5 enc_T_anon155 (some ⟨0, 0, none⟩) gl0) :
    Calls Tryd.prog 4 #[.iface 37 (pA B0 0), .agg #[.slice va1_Funcs p1.Funcs.length vc1_Funcs], .slice va2 p2.length vc2, vI p3, ag_T_api_Limits p4] w fun e w => ∃ Bn0 car0_1 ccr0_2 car0_3 ccr0_4 car0_5 ccr0_6 car0_7 ccr0_8 caq0_1 ccq0_2 caq0_3 ccq0_4, e = .returned (.tuple #[pA Bn0 0, vI r1]) ∧ Fit z (sepL (ob102 B0 q0 caq0_1 ccq0_2 caq0_3 ccq0_4 :: ro2 caq0_1 ccq0_2 q0.cell :: ro111 caq0_3 ccq0_4 q0.log :: ob73 Bn0 r0 (.iface 37 (pA B0 0)) car0_1 ccr0_2 car0_3 ccr0_4 car0_5 ccr0_6 car0_7 ccr0_8 :: rn76 car0_1 ccr0_2 r0.code :: ro84 car0_3 ccr0_4 r0.deques :: ro80 car0_5 ccr0_6 r0.tasks :: ro97 Bn0 car0_7 ccr0_8 r0.workers :: L)) w := by
 unfold worker_New_iface at H
 refine enter Tryd.func4 rfl 103 rfl rfl [(0, .iface 37 (pA B0 0)), (1, .agg #[.slice va1_Funcs p1.Funcs.length vc1_Funcs]), (2, .slice va2 p2.length vc2), (3, vI p3), (4, ag_T_api_Limits p4)] ⟨rfl, rfl, rfl, rfl, rfl, trivial⟩ ?_
 intro j a hr
 refine sr ?_
 refine onew (wn rfl) hr h nb (#[.slice va1_Funcs p1.Funcs.length vc1_Funcs]) 24 fun b5 w a h hr => ?_
 refine onew (wn rfl) hr h nb (ca_T_api_Limits p4) 27 fun b6 w a h hr => ?_
 refine oo [10, 11] [pN, vI 0] hr fun a hr => ?_
 refine ln ?_
 refine wp_seq ?_
 refine sr ?_
 refine oo [18, 19] [.iface 37 (pA B0 0), vB false] hr fun a hr => ?_
 refine ln ?_
 refine cond_ff hr (b := false) rfl ?_
 refine wp_skip ?_
 refine then_normal ?_
 refine wp_seq ?_
 refine sr ?_
 refine ldm (wn rfl) hr (.agg #[.slice va1_Funcs p1.Funcs.length vc1_Funcs]) (cs := [.slice va1_Funcs p1.Funcs.length vc1_Funcs]) ⟨(h.pick 1).cell 0 rfl, trivial⟩ fun a hr => ?_
 refine oo [21, 22] [.slice va2 p2.length vc2, vI p3] hr fun a hr => ?_
 refine ldm (wn rfl) hr (ag_T_api_Limits p4) (cs := cl_T_api_Limits p4) (h.held 0 rfl) fun a hr => ?_
 obtain ⟨r7, e8, H⟩ := bd1 H
 have hc := worker_refuse_ok (va1 := va2) (vc1 := vc2) (hv1 := (RdRow.up 5 hv2)) (va0_Funcs := va1_Funcs) (vc0_Funcs := vc1_Funcs) (hv0_Funcs := (RdN.up 5 hv1_Funcs)) (hg0 := RdRow.up 5 hg0) (hs0_Funcs := hs1_Funcs) (H := e8) (h := h)
 refine cl (wn rfl) hr hc ?_; clear hc h
 rintro _ w ⟨rfl, h⟩; refine ⟨_, rfl, fun a hr => ?_⟩
 refine o1 hr (vI r7) fun a hr => ?_
 refine ln ?_
 refine sr ?_
 refine oo [25, 26] [vI r7, vB (r7 != 0)] hr fun a hr => ?_
 refine ln ?_
 refine cN hr H (fun c9 H => ?_) fun c9 H => ?_
 ·
  refine wp_skip ?_
  refine then_normal ?_
  refine sr ?_
  refine oo [28, 29] [.iface 37 (pA B0 0), pA b6 0] hr fun a hr => ?_
  refine ld (wn rfl) hr (vI p4.Frames) (h.cell 0 rfl) fun a hr => ?_
  obtain ⟨c10, H⟩ := gd H
  refine op_make_row (i := p4.Frames) (bytes := 176) (zc := ([vI 0, vI 0, vI 0, vI 0, vI 0, vI 0] ++ encA 16 encZ_i64 (List.replicate 16 (0 : Int))).toArray) (⟨0, 0, 0, 0, 0, 0, List.replicate 16 (0 : Int)⟩ : T_worker_task) (wn rfl) rfl rfl hr rfl (by kernel_rfl) (by kernel_rfl) c10 enc_T_worker_task_ok (E := 80) (by kernel_rfl) (by kernel_rfl) rfl rfl h fun ca11 w a h hr => ?_
  refine o1 hr (.agg #[.iface 37 (pA B0 0), .slice none 0 0, vI 0, vI 0, vI 0, vI 0, vI 0, .slice none 0 0, .slice ca11 (List.replicate p4.Frames.toNat (⟨0, 0, 0, 0, 0, 0, List.replicate 16 (0 : Int)⟩ : T_worker_task)).length p4.Frames.toNat, .slice none 0 0, vI 0, vB false]) fun a hr => ?_
  refine onew (wn rfl) hr h nb (#[.iface 37 (pA B0 0), .slice none 0 0, vI 0, vI 0, vI 0, vI 0, vI 0, .slice none 0 0, .slice ca11 (List.replicate p4.Frames.toNat (⟨0, 0, 0, 0, 0, 0, List.replicate 16 (0 : Int)⟩ : T_worker_task)).length p4.Frames.toNat, .slice none 0 0, vI 0, vB false]) 73 fun b12 w a h hr => ?_
  refine o1 hr (pA b12 0) fun a hr => ?_
  refine ln ?_
  obtain ⟨o17, H, hK16⟩ := kd1 H
  refine cut_rule (β := Unit) (fun _ a w => ∃ ca13 : Option Addr, ∃ cc14 : Nat, ∃ l15 : List T_api_Func, l15 = o17 ∧ ∃ j, Rep 103 (lk [(2, .slice va2 p2.length vc2), (3, vI p3), (9, pA b6 0), (13, pA b12 0)] j) a ∧ Fit z (sepL (ob27 b6 p4 :: pts b12 (.cells #[.iface 37 (pA B0 0), .slice ca13 l15.length cc14, vI 0, vI 0, vI 0, vI 0, vI 0, .slice none 0 0, .slice ca11 (List.replicate p4.Frames.toNat (⟨0, 0, 0, 0, 0, 0, List.replicate 16 (0 : Int)⟩ : T_worker_task)).length p4.Frames.toNat, .slice none 0 0, vI 0, vB false] 73) :: ob102 B0 p0 ca1 cc2 ca3 cc4 :: ro2 ca1 cc2 p0.cell :: ro111 ca3 cc4 p0.log :: rn76 ca13 cc14 l15 :: ro80 ca11 p4.Frames.toNat (List.replicate p4.Frames.toNat (⟨0, 0, 0, 0, 0, 0, List.replicate 16 (0 : Int)⟩ : T_worker_task)) :: L)) w) ?_ ?_
  ·
   refine sr ?_
   refine o1 hr (pA b5 0) fun a hr => ?_
   refine ld (wn rfl) hr (.slice va1_Funcs p1.Funcs.length vc1_Funcs) ((h.pick 3).cell 0 rfl) fun a hr => ?_
   refine oo [36, 37] [vI ((p1.Funcs.length : Nat) : Int), vI 0] hr fun a hr => ?_
   refine ln ?_
   refine wp_block ?_
   replace h := h.rowN_nil (e := 76) (sz := 4) (own := own_T_api_Func)
   refine loop_rule (β := Nat) id (fun m a w => ∃ ca18 : Option Addr, ∃ cc19 : Nat, ∃ l20 : List T_api_Func, ∃ g21 : Int, (worker_New_iface_l1 K p1 m l20 g21) = some o17 ∧ ∃ j, Rep 103 (lk [(2, .slice va2 p2.length vc2), (3, vI p3), (9, pA b6 0), (13, pA b12 0), (35, .slice va1_Funcs p1.Funcs.length vc1_Funcs), (36, vI ((p1.Funcs.length : Nat) : Int)), (37, vI g21)] j) a ∧ Fit z (sepL (ob27 b6 p4 :: pts b12 (.cells #[.iface 37 (pA B0 0), .slice ca18 l20.length cc19, vI 0, vI 0, vI 0, vI 0, vI 0, .slice none 0 0, .slice ca11 (List.replicate p4.Frames.toNat (⟨0, 0, 0, 0, 0, 0, List.replicate 16 (0 : Int)⟩ : T_worker_task)).length p4.Frames.toNat, .slice none 0 0, vI 0, vB false] 73) :: ob102 B0 p0 ca1 cc2 ca3 cc4 :: ro2 ca1 cc2 p0.cell :: ro111 ca3 cc4 p0.log :: rn76 ca18 cc19 l20 :: ro80 ca11 p4.Frames.toNat (List.replicate p4.Frames.toNat (⟨0, 0, 0, 0, 0, 0, List.replicate 16 (0 : Int)⟩ : T_worker_task)) :: L)) w) K ⟨none, 0, ([] : List T_api_Func), 0, H, hr.fj (h.se 8 [3, 1, 5, 6, 7, 0, 2])⟩ ?_
   clear h hr a H; rintro k1 a w ⟨ca18, cc19, l20, g21, H, j, hr, h⟩
   cases k1 with
   | zero => exact absurd H (by simp [worker_New_iface_l1])
   | succ k1 =>
    rw [worker_New_iface_l1] at H
    refine sr ?_
    refine o1 hr (vB (decide (g21 < ((p1.Funcs.length : Nat) : Int)))) fun a hr => ?_
    refine ln ?_
    refine wp_seq ?_
    refine cD hr H (fun c22 H => ?_) fun c22 H => ?_
    ·
     refine wp_skip ?_
     refine then_normal ?_
     refine wp_seq ?_
     refine wp_block ?_
     refine sr ?_
     obtain ⟨c23, H⟩ := gd H
     refine opv (wn rfl) hr (pA (blk va1_Funcs) (offs va1_Funcs + g21.toNat * 4)) (ri_rn (k := .i64) (E := 76) (cc := vc1_Funcs) rfl (by kernel_rfl) (by kernel_rfl) rfl (by kernel_rfl) (by kernel_rfl) hv1_Funcs c23) fun a hr => ?_
     refine ldm (wn rfl) hr (.agg #[vI (at_ p1.Funcs g21.toNat).Params, vI (at_ p1.Funcs g21.toNat).Regs, vI (at_ p1.Funcs g21.toNat).Slots, .slice ((hs1_Funcs g21.toNat).1) (at_ p1.Funcs g21.toNat).Code.length ((hs1_Funcs g21.toNat).2)]) (cs := [vI (at_ p1.Funcs g21.toNat).Params, vI (at_ p1.Funcs g21.toNat).Regs, vI (at_ p1.Funcs g21.toNat).Slots, .slice ((hs1_Funcs g21.toNat).1) (at_ p1.Funcs g21.toNat).Code.length ((hs1_Funcs g21.toNat).2)]) ⟨hv1_Funcs.cell c23 (h.dn 7) 0 rfl, hv1_Funcs.cell c23 (h.dn 7) 1 rfl, hv1_Funcs.cell c23 (h.dn 7) 2 rfl, hv1_Funcs.cell c23 (h.dn 7) 3 rfl, trivial⟩ fun a hr => ?_
     refine onew (wn rfl) hr h nb (#[vI 0, vI 0, vI 0, .slice none 0 0]) 76 fun b24 w a h hr => ?_
     refine stm (wn rfl) hr h 0 ([vI (at_ p1.Funcs g21.toNat).Params, vI (at_ p1.Funcs g21.toNat).Regs, vI (at_ p1.Funcs g21.toNat).Slots, .slice ((hs1_Funcs g21.toNat).1) (at_ p1.Funcs g21.toNat).Code.length ((hs1_Funcs g21.toNat).2)]) (ob76 b24 (at_ p1.Funcs g21.toNat) ((hs1_Funcs g21.toNat).1) ((hs1_Funcs g21.toNat).2)) fun w h => ?_
     refine ln ?_
     refine sr ?_
     refine o1 hr (pA b24 3) fun a hr => ?_
     refine ld (wn rfl) hr (.slice ((hs1_Funcs g21.toNat).1) (at_ p1.Funcs g21.toNat).Code.length ((hs1_Funcs g21.toNat).2)) (h.cell 3 rfl) fun a hr => ?_
     replace h := h.row_nil (e := 108) (sz := 5) (enc := enc_T_api_Instr)
     obtain ⟨c27, H⟩ := gd H
     refine op_append_rd (m0 := 0) (n0 := 0) (va := ((hs1_Funcs g21.toNat).1)) (c := ((hs1_Funcs g21.toNat).2)) (bytes := 40) (wn rfl) rfl rfl hr rfl (by kernel_rfl) (by kernel_rfl) enc_T_api_Instr_ok (E := 108) (xs := ([] : List T_api_Instr)) (by kernel_rfl) (by kernel_rfl) h (news := (at_ p1.Funcs g21.toNat).Code) (RdRow.up 8 (hv1_Funcs.inn c23)) c27 rfl fun ca25 cc26 w a h hr => ?_
     refine o1 hr (pA b24 3) fun a hr => ?_
     replace h := h.m1
     refine st1 (wn rfl) hr h 3 (.slice ca25 (([] : List T_api_Instr) ++ (at_ p1.Funcs g21.toNat).Code).length cc26) (pts b24 (.cells #[vI (at_ p1.Funcs g21.toNat).Params, vI (at_ p1.Funcs g21.toNat).Regs, vI (at_ p1.Funcs g21.toNat).Slots, .slice ca25 (([] : List T_api_Instr) ++ (at_ p1.Funcs g21.toNat).Code).length cc26] 76)) fun w h => ?_
     refine ln ?_
     obtain ⟨c29, H⟩ := gd H
     refine regL [(b12, 1, [.slice ca18 l20.length cc19]), (b24, 0, [vI (at_ p1.Funcs g21.toNat).Params, vI (at_ p1.Funcs g21.toNat).Regs, vI (at_ p1.Funcs g21.toNat).Slots, .slice ca25 (([] : List T_api_Instr) ++ (at_ p1.Funcs g21.toNat).Code).length cc26])] [2, 3] 11 h (fun h => ⟨⟨(h.pick 3).cell 1 rfl, trivial⟩, (h.held 0 rfl), trivial⟩) fun w h hd => ?_
     refine evs' hd 7 [(0, 45, pA b12 0), (1, 46, pA b12 0), (2, 47, pA b12 0), (3, 48, pA b12 1)] hr fun a hr => ?_
     refine elx hd 0 6 4 hr (wn rfl) rfl rfl fun a hr => ?_
     refine elm hd 1 5 5 hr (wn rfl) rfl rfl fun a hr => ?_
     refine eo1 6 rfl ?_
     refine onew (wn rfl) hr h (fun b => .slice (some ⟨b, 0, none⟩) 1 1) (#[vI (at_ p1.Funcs g21.toNat).Params, vI (at_ p1.Funcs g21.toNat).Regs, vI (at_ p1.Funcs g21.toNat).Slots, .slice ca25 (([] : List T_api_Instr) ++ (at_ p1.Funcs g21.toNat).Code).length cc26]) 76 fun b28 w a h hr => ?_
     refine ln ?_
     refine xE ?_
     refine eo1 7 rfl ?_
     replace h := h.m2
     replace h := own_T_api_Func_sh (x := ({ at_ p1.Funcs g21.toNat with Code := ([] : List T_api_Instr) ++ (at_ p1.Funcs g21.toNat).Code })) h
     replace h := h.m8
     refine op_append_N (n0 := l20.length) (c := 1) (bytes := 48) (sz := 4) (wn rfl) rfl rfl hr rfl (by kernel_rfl) (by kernel_rfl) (E := 76) (xs := l20) (by kernel_rfl) (by kernel_rfl) rfl rfl rfl h ((h.pick 2).news rfl) c29 rfl fun ca30 cc31 w a h hr => ?_
     refine ln ?_
     refine xE ?_
     refine evs 2 8 rfl (wn rfl) hr (pA b12 0) fun a hr => ?_
     refine evs 1 9 rfl (wn rfl) hr (pA b12 1) fun a hr => ?_
     refine eo1 10 rfl ?_
     replace h := h.m4
     refine st1 (wn rfl) hr h 1 (.slice ca30 (l20 ++ [{ at_ p1.Funcs g21.toNat with Code := ([] : List T_api_Instr) ++ (at_ p1.Funcs g21.toNat).Code }]).length cc31) (pts b12 (.cells #[.iface 37 (pA B0 0), .slice ca30 (l20 ++ [{ at_ p1.Funcs g21.toNat with Code := ([] : List T_api_Instr) ++ (at_ p1.Funcs g21.toNat).Code }]).length cc31, vI 0, vI 0, vI 0, vI 0, vI 0, .slice none 0 0, .slice ca11 (List.replicate p4.Frames.toNat (⟨0, 0, 0, 0, 0, 0, List.replicate 16 (0 : Int)⟩ : T_worker_task)).length p4.Frames.toNat, .slice none 0 0, vI 0, vB false] 73)) fun w h => ?_
     refine ln ?_
     refine xE ?_
     refine een ?_
     refine blk_normal ?_
     refine then_normal ?_
     refine wp_region_lit ?_
     refine oo [55, 37] [vI (wi (g21 + 1)), vI (wi (g21 + 1))] hr fun a hr => ?_
     refine ln ?_
     exact ⟨_, ⟨ca30, cc31, (l20 ++ [{ at_ p1.Funcs g21.toNat with Code := ([] : List T_api_Instr) ++ (at_ p1.Funcs g21.toNat).Code }]), (wi (g21 + 1)), H, hr.fj (h.se 9 [4, 0, 5, 6, 7, 1, 8])⟩, Nat.lt_succ_self _⟩
    ·
     refine wp_exit ?_
     refine then_exit ?_
     refine then_exit ?_
     refine blk_here ?_
     refine then_normal ?_
     exact ⟨(), ca18, cc19, l20, sinj H, hr.fj h⟩
  clear h hr a; rintro _ a w ⟨ca13, cc14, l15, rfl, j, hr, h⟩
  replace H := kk1 hK16
  refine wp_seq ?_
  refine sr ?_
  refine oo [56, 57] [pA b12 0, vI p3] hr fun a hr => ?_
  refine ldm (wn rfl) hr (ag_T_api_Limits p4) (cs := cl_T_api_Limits p4) (h.held 0 rfl) fun a hr => ?_
  replace h := h.row_nil (e := 84) (sz := 2) (enc := enc_T_deque_Deque)
  replace h := h.row_nil (e := 97) (sz := 188) (enc := (enc_T_worker_actor b12))
  obtain ⟨r32, S33, S34, e35, H⟩ := bd3 H
  replace h := h.m6.m6.m6.m3.m8.m5.m8.m8
  have hc := worker_World_lay_ok (H := e35) (h := h)
  refine cl (wn rfl) hr hc ?_; clear hc h
  rintro _ w ⟨caq36, ccq37, caq38, ccq39, caq40, ccq41, caq42, ccq43, caq44, ccq45, caq46, ccq47, rfl, h⟩; refine ⟨_, rfl, fun a hr => ?_⟩
  refine o1 hr (vI r32) fun a hr => ?_
  refine ln ?_
  refine sr ?_
  refine oo [60, 61] [vI r32, vB (r32 != 0)] hr fun a hr => ?_
  refine ln ?_
  refine cN hr H (fun c48 H => ?_) fun c48 H => ?_
  ·
   refine wp_skip ?_
   refine then_normal ?_
   refine sr ?_
   refine oo [63, 64, 65] [pA b12 0, pA b12 0, pA b12 8] hr fun a hr => ?_
   refine ld (wn rfl) hr (.slice caq40 S33.tasks.length ccq41) (h.cell 8 rfl) fun a hr => ?_
   obtain ⟨c49, H⟩ := gd H
   refine o1 hr (.agg ([vI 0, vI 0, vI (-1), vI 0, vI 0, vI 1] ++ encA 16 encZ_i64 (List.replicate 16 (0 : Int))).toArray) fun a hr => ?_
   refine opv (wn rfl) hr (pA (blk caq40) (0 * 22)) (ri_row (i := (0 : Int)) (k := .i64) (E := 80) rfl (by kernel_rfl) (by kernel_rfl) (by kernel_rfl) (by kernel_rfl) (h.pick 3) c49) fun a hr => ?_
   replace h := h.m3
   refine op_stores_row (wn rfl) rfl hr rfl (by kernel_rfl) (by kernel_rfl) (vs := [vI 0, vI 0, vI (-1), vI 0, vI 0, vI 1] ++ encA 16 encZ_i64 (List.replicate 16 (0 : Int))) rfl (by kernel_rfl) enc_T_worker_task_ok h (i := 0) (q := (⟨0, 0, -1, 0, 0, 1, (List.replicate 16 (0 : Int))⟩ : T_worker_task)) (at_okL c49) rfl fun w h => ?_
   refine ln ?_
   refine sr ?_
   refine oo [69, 70, 71] [pA b12 0, pA b12 0, pA b12 8] hr fun a hr => ?_
   refine ld (wn rfl) hr (.slice caq40 S33.tasks.length ccq41) ((h.pick 1).cell 8 rfl) fun a hr => ?_
   obtain ⟨c50, H⟩ := gd H
   refine opv (wn rfl) hr (pA (blk caq40) (0 * 22)) (ri_row (i := (0 : Int)) (k := .i64) (E := 80) rfl (by kernel_rfl) (by kernel_rfl) (by kernel_rfl) (by kernel_rfl) h c50) fun a hr => ?_
   obtain ⟨c51, H⟩ := gd H
   refine oo [74, 75, 76] [pA (blk caq40) (0 * 22 + 6), .slice (some ⟨blk caq40, 0 * 22 + 6, none⟩) 16 16, .slice va2 p2.length vc2] hr fun a hr => ?_
   refine op_copy_in (cv := vc2) (N := 16) (f := 6) (i := 0) (I := 2) (ys := p2) (wn rfl) rfl rfl hr rfl (by kernel_rfl) (by kernel_rfl) enc_T_worker_task_ok encZ_i64_ok (by kernel_rfl) (by kernel_rfl) c51 h (RdRow.up 0 (RdRow.up 8 hv2)) (p := (⟨0, 0, -1, 0, 0, 1, (List.replicate 16 (0 : Int))⟩ : T_worker_task)) (q := ({ (⟨0, 0, -1, 0, 0, 1, (List.replicate 16 (0 : Int))⟩ : T_worker_task) with regs := cpA 16 p2 (⟨0, 0, -1, 0, 0, 1, (List.replicate 16 (0 : Int))⟩ : T_worker_task).regs })) (get_set ((by simpa [inr_] using c50))) (by have := c51; omega) (by have e := encA_cp (N := 16) encZ_i64_ok (l := (⟨0, 0, -1, 0, 0, 1, (List.replicate 16 (0 : Int))⟩ : T_worker_task).regs) c51; show [vI (⟨0, 0, -1, 0, 0, 1, (List.replicate 16 (0 : Int))⟩ : T_worker_task).fn, vI (⟨0, 0, -1, 0, 0, 1, (List.replicate 16 (0 : Int))⟩ : T_worker_task).at_, vI (⟨0, 0, -1, 0, 0, 1, (List.replicate 16 (0 : Int))⟩ : T_worker_task).parent, vI (⟨0, 0, -1, 0, 0, 1, (List.replicate 16 (0 : Int))⟩ : T_worker_task).slot, vI (⟨0, 0, -1, 0, 0, 1, (List.replicate 16 (0 : Int))⟩ : T_worker_task).kids, vI (⟨0, 0, -1, 0, 0, 1, (List.replicate 16 (0 : Int))⟩ : T_worker_task).ped] ++ encA 16 encZ_i64 (cpA 16 p2 (⟨0, 0, -1, 0, 0, 1, (List.replicate 16 (0 : Int))⟩ : T_worker_task).regs) = _; rw [e]; exact cp_hq rfl) fun w a h hr => ?_
   refine ln ?_
   obtain ⟨o56, H, hK55⟩ := kd1 H
   refine cut_rule (β := Unit) (fun _ a w => ∃ ca52 : Option Addr, ∃ cc53 : Nat, ∃ l54 : List T_worker_actor, l54 = o56 ∧ ∃ j, Rep 103 (lk [(13, pA b12 0)] j) a ∧ Fit z (sepL (pts b12 (.cells #[.iface 37 (pA B0 0), .slice caq36 S33.code.length ccq37, vI S33.result, vI S33.table_Base, vI S33.table_Frames, vI S33.lot_Base, vI S33.lot_Workers, .slice caq38 S33.deques.length ccq39, .slice caq40 S33.tasks.length ccq41, .slice ca52 l54.length cc53, vI S33.value, vB S33.left] 73) :: ob102 B0 S34 caq44 ccq45 caq46 ccq47 :: ro2 caq44 ccq45 S34.cell :: ro111 caq46 ccq47 S34.log :: rn76 caq36 ccq37 S33.code :: ro84 caq38 ccq39 S33.deques :: rowOf 80 22 enc_T_worker_task (.slice caq40 S33.tasks.length ccq41) ((S33.tasks.set 0 (⟨0, 0, -1, 0, 0, 1, (List.replicate 16 (0 : Int))⟩ : T_worker_task)).set 0 ({ (⟨0, 0, -1, 0, 0, 1, (List.replicate 16 (0 : Int))⟩ : T_worker_task) with regs := cpA 16 p2 (⟨0, 0, -1, 0, 0, 1, (List.replicate 16 (0 : Int))⟩ : T_worker_task).regs })) :: ro97 b12 ca52 cc53 l54 :: L)) w) ?_ ?_
   ·
    refine sr ?_
    refine oo [78, 79] [vI p3, vI 0] hr fun a hr => ?_
    refine ln ?_
    refine wp_block ?_
    refine loop_rule (β := Nat) id (fun m a w => ∃ ca57 : Option Addr, ∃ cc58 : Nat, ∃ l59 : List T_worker_actor, ∃ g60 : Int, (worker_New_iface_l2 K p3 m l59 g60) = some o56 ∧ ∃ j, Rep 103 (lk [(13, pA b12 0), (78, vI p3), (79, vI g60)] j) a ∧ Fit z (sepL (pts b12 (.cells #[.iface 37 (pA B0 0), .slice caq36 S33.code.length ccq37, vI S33.result, vI S33.table_Base, vI S33.table_Frames, vI S33.lot_Base, vI S33.lot_Workers, .slice caq38 S33.deques.length ccq39, .slice caq40 S33.tasks.length ccq41, .slice ca57 l59.length cc58, vI S33.value, vB S33.left] 73) :: ob102 B0 S34 caq44 ccq45 caq46 ccq47 :: ro2 caq44 ccq45 S34.cell :: ro111 caq46 ccq47 S34.log :: rn76 caq36 ccq37 S33.code :: ro84 caq38 ccq39 S33.deques :: rowOf 80 22 enc_T_worker_task (.slice caq40 S33.tasks.length ccq41) ((S33.tasks.set 0 (⟨0, 0, -1, 0, 0, 1, (List.replicate 16 (0 : Int))⟩ : T_worker_task)).set 0 ({ (⟨0, 0, -1, 0, 0, 1, (List.replicate 16 (0 : Int))⟩ : T_worker_task) with regs := cpA 16 p2 (⟨0, 0, -1, 0, 0, 1, (List.replicate 16 (0 : Int))⟩ : T_worker_task).regs })) :: ro97 b12 ca57 cc58 l59 :: L)) w) K ⟨caq42, ccq43, S33.workers, 0, H, hr.fj (h.se 9 [1, 5, 6, 7, 2, 3, 0, 4])⟩ ?_
    clear h hr a H; rintro k2 a w ⟨ca57, cc58, l59, g60, H, j, hr, h⟩
    cases k2 with
    | zero => exact absurd H (by simp [worker_New_iface_l2])
    | succ k2 =>
     rw [worker_New_iface_l2] at H
     refine sr ?_
     refine o1 hr (vB (decide (g60 < p3))) fun a hr => ?_
     refine ln ?_
     refine wp_seq ?_
     refine cD hr H (fun c61 H => ?_) fun c61 H => ?_
     ·
      refine wp_skip ?_
      refine then_normal ?_
      refine wp_seq ?_
      refine wp_block ?_
      refine sr ?_
      refine oo [81, 17] [vI g60, vI g60] hr fun a hr => ?_
      refine ln ?_
      refine wp_region_lit ?_
      refine oo [82, 83, 84, 85] [pA b12 0, pA b12 0, pA b12 0, pA b12 9] hr fun a hr => ?_
      refine ld (wn rfl) hr (.slice ca57 l59.length cc58) (h.cell 9 rfl) fun a hr => ?_
      refine oo [87, 88, 89, 90] [pA b12 0, vI g60, .agg #[pA b12 0, vI g60], .agg ([pA b12 0, vI g60, vI 9, vI (-1), vI 0, vI 0, vI 0, vI 0, vI 0] ++ enc_T_deque_Op (⟨0, 0, 0, 0, 0, 0, 0, 0, 0, 0, 0, 0, 0, false, 0, 0⟩ : T_deque_Op) ++ enc_T_frames_Op (⟨0, 0, 0, 0, 0, 0, 0, 0, 0⟩ : T_frames_Op) ++ enc_T_park_Op (⟨0, 0, 0, 0, 0, 0, 0, 0, 0, List.replicate 64 (⟨0, 0⟩ : T_deque_Deque), (⟨0, 0, 0, 0, 0, 0, 0, 0, 0, 0, 0, 0, 0, false, 0, 0⟩ : T_deque_Op)⟩ : T_park_Op) ++ [vB false]).toArray] hr fun a hr => ?_
      refine onew (wn rfl) hr h (fun b => .slice (some ⟨b, 0, none⟩) 1 1) (([pA b12 0, vI g60, vI 9, vI (-1), vI 0, vI 0, vI 0, vI 0, vI 0] ++ enc_T_deque_Op (⟨0, 0, 0, 0, 0, 0, 0, 0, 0, 0, 0, 0, 0, false, 0, 0⟩ : T_deque_Op) ++ enc_T_frames_Op (⟨0, 0, 0, 0, 0, 0, 0, 0, 0⟩ : T_frames_Op) ++ enc_T_park_Op (⟨0, 0, 0, 0, 0, 0, 0, 0, 0, List.replicate 64 (⟨0, 0⟩ : T_deque_Deque), (⟨0, 0, 0, 0, 0, 0, 0, 0, 0, 0, 0, 0, 0, false, 0, 0⟩ : T_deque_Op)⟩ : T_park_Op) ++ [vB false]).toArray) 97 fun b62 w a h hr => ?_
      replace h := h.m8
      obtain ⟨c65, H⟩ := gd H
      refine op_append (n0 := l59.length) (c := 1) (bytes := 1504) (wn rfl) rfl rfl hr rfl (by kernel_rfl) (by kernel_rfl) (enc_T_worker_actor_ok b12) (E := 97) (xs := l59) (by kernel_rfl) (by kernel_rfl) h (news := [(⟨g60, 9, -1, 0, 0, 0, 0, 0, (⟨0, 0, 0, 0, 0, 0, 0, 0, 0, 0, 0, 0, 0, false, 0, 0⟩ : T_deque_Op), (⟨0, 0, 0, 0, 0, 0, 0, 0, 0⟩ : T_frames_Op), (⟨0, 0, 0, 0, 0, 0, 0, 0, 0, List.replicate 64 (⟨0, 0⟩ : T_deque_Deque), (⟨0, 0, 0, 0, 0, 0, 0, 0, 0, 0, 0, 0, 0, false, 0, 0⟩ : T_deque_Op)⟩ : T_park_Op), false⟩ : T_worker_actor)]) (m := 1) rfl ((h.pick 1).news rfl) c65 rfl fun ca63 cc64 w a h hr => ?_
      refine oo [93, 94] [pA b12 0, pA b12 9] hr fun a hr => ?_
      replace h := h.m2
      refine st1 (wn rfl) hr h 9 (.slice ca63 (l59 ++ [(⟨g60, 9, -1, 0, 0, 0, 0, 0, (⟨0, 0, 0, 0, 0, 0, 0, 0, 0, 0, 0, 0, 0, false, 0, 0⟩ : T_deque_Op), (⟨0, 0, 0, 0, 0, 0, 0, 0, 0⟩ : T_frames_Op), (⟨0, 0, 0, 0, 0, 0, 0, 0, 0, List.replicate 64 (⟨0, 0⟩ : T_deque_Deque), (⟨0, 0, 0, 0, 0, 0, 0, 0, 0, 0, 0, 0, 0, false, 0, 0⟩ : T_deque_Op)⟩ : T_park_Op), false⟩ : T_worker_actor)]).length cc64) (pts b12 (.cells #[.iface 37 (pA B0 0), .slice caq36 S33.code.length ccq37, vI S33.result, vI S33.table_Base, vI S33.table_Frames, vI S33.lot_Base, vI S33.lot_Workers, .slice caq38 S33.deques.length ccq39, .slice caq40 S33.tasks.length ccq41, .slice ca63 (l59 ++ [(⟨g60, 9, -1, 0, 0, 0, 0, 0, (⟨0, 0, 0, 0, 0, 0, 0, 0, 0, 0, 0, 0, 0, false, 0, 0⟩ : T_deque_Op), (⟨0, 0, 0, 0, 0, 0, 0, 0, 0⟩ : T_frames_Op), (⟨0, 0, 0, 0, 0, 0, 0, 0, 0, List.replicate 64 (⟨0, 0⟩ : T_deque_Deque), (⟨0, 0, 0, 0, 0, 0, 0, 0, 0, 0, 0, 0, 0, false, 0, 0⟩ : T_deque_Op)⟩ : T_park_Op), false⟩ : T_worker_actor)]).length cc64, vI S33.value, vB S33.left] 73)) fun w h => ?_
      refine wpList_nil ?_
      refine blk_normal ?_
      refine then_normal ?_
      refine wp_region_lit ?_
      refine oo [95, 79] [vI (wi (g60 + 1)), vI (wi (g60 + 1))] hr fun a hr => ?_
      refine ln ?_
      exact ⟨_, ⟨ca63, cc64, (l59 ++ [(⟨g60, 9, -1, 0, 0, 0, 0, 0, (⟨0, 0, 0, 0, 0, 0, 0, 0, 0, 0, 0, 0, 0, false, 0, 0⟩ : T_deque_Op), (⟨0, 0, 0, 0, 0, 0, 0, 0, 0⟩ : T_frames_Op), (⟨0, 0, 0, 0, 0, 0, 0, 0, 0, List.replicate 64 (⟨0, 0⟩ : T_deque_Deque), (⟨0, 0, 0, 0, 0, 0, 0, 0, 0, 0, 0, 0, 0, false, 0, 0⟩ : T_deque_Op)⟩ : T_park_Op), false⟩ : T_worker_actor)]), (wi (g60 + 1)), H, hr.fj (h.se 9 [0, 3, 4, 5, 6, 7, 8, 1])⟩, Nat.lt_succ_self _⟩
     ·
      refine wp_exit ?_
      refine then_exit ?_
      refine then_exit ?_
      refine blk_here ?_
      refine then_normal ?_
      exact ⟨(), ca57, cc58, l59, sinj H, hr.fj h⟩
   clear h hr a; rintro _ a w ⟨ca52, cc53, l54, rfl, j, hr, h⟩
   replace H := kk1 hK55
   refine sr ?_
   refine oo [96, 97, 98] [pA b12 0, pA b12 0, pA b12 9] hr fun a hr => ?_
   refine ld (wn rfl) hr (.slice ca52 l54.length cc53) (h.cell 9 rfl) fun a hr => ?_
   obtain ⟨c66, H⟩ := gd H
   refine opv (wn rfl) hr (pA (blk ca52) (0 * 188)) (ri_row (i := (0 : Int)) (k := .i64) (E := 97) rfl (by kernel_rfl) (by kernel_rfl) (by kernel_rfl) (by kernel_rfl) (h.pick 7) c66) fun a hr => ?_
   refine op_inl (wn rfl) rfl rfl hr (f := 23) (args := #[pA (blk ca52) (0 * 188), vI 0, vI (-1)]) (by kernel_rfl) ?_; clear hr a
   refine enter Tryd.func23 rfl 17 rfl rfl [(0, pA (blk ca52) (0 * 188)), (1, vI 0), (2, vI (-1))] ⟨by kernel_rfl, by kernel_rfl, by kernel_rfl, trivial⟩ ?_; intro j a hr
   refine wp_region_lit ?_
   refine oo [6, 7, 8, 9, 10, 11, 12] [pA (blk ca52) (0 * 188), pA (blk ca52) (0 * 188), pA (blk ca52) (0 * 188), vI 0, vI (-1), pA (blk ca52) (0 * 188), pA (blk ca52) (0 * 188 + 3)] hr fun a hr => ?_
   replace h := h.m7
   refine op_store_row (wn rfl) rfl hr rfl (by kernel_rfl) (by kernel_rfl) (v := vI 0) rfl rfl (by kernel_rfl) (enc_T_worker_actor_ok b12) h (i := 0) (f := 3) (p := (at_ l54 0)) (q := ({ at_ l54 0 with frame := 0 })) (at_ok c66) (by decide) rfl fun w h => ?_
   refine oo [13, 14] [pA (blk ca52) (0 * 188), pA (blk ca52) (0 * 188 + 4)] hr fun a hr => ?_
   refine op_store_row (wn rfl) rfl hr rfl (by kernel_rfl) (by kernel_rfl) (v := vI (-1)) rfl rfl (by kernel_rfl) (enc_T_worker_actor_ok b12) h (i := 0) (f := 4) (p := { at_ l54 0 with frame := 0 }) (q := ({ { at_ l54 0 with frame := 0 } with from_ := -1 })) (get_set (at_okL c66)) (by decide) rfl fun w h => ?_
   refine oo [15, 16] [pA (blk ca52) (0 * 188), pA (blk ca52) (0 * 188 + 2)] hr fun a hr => ?_
   refine op_store_row (wn rfl) rfl hr rfl (by kernel_rfl) (by kernel_rfl) (v := vI 0) rfl rfl (by kernel_rfl) (enc_T_worker_actor_ok b12) h (i := 0) (f := 2) (p := { { at_ l54 0 with frame := 0 } with from_ := -1 }) (q := ({ { { at_ l54 0 with frame := 0 } with from_ := -1 } with about := 0 })) (get_set ((by simpa [inr_] using c66))) (by decide) rfl fun w h => ?_
   refine wpList_nil ?_
   refine end_norm0 rfl hr ?_
   refine ⟨_, rfl, ?_⟩; clear hr a; intro a hr
   refine ln ?_
   refine sr ?_
   refine oo [102, 10, 11] [pA b12 0, pA b12 0, vI 0] hr fun a hr => ?_
   refine ln ?_
   refine wp_ret ?_
   refine end_ret2 (v := pA b12 0) (v' := vI 0) rfl hr (by kernel_rfl) (by kernel_rfl) ?_
   replace h := h.m1.m7
   have hn66 : S33.tasks.length = ((S33.tasks.set 0 (⟨0, 0, -1, 0, 0, 1, (List.replicate 16 (0 : Int))⟩ : T_worker_task)).set 0 ({ (⟨0, 0, -1, 0, 0, 1, (List.replicate 16 (0 : Int))⟩ : T_worker_task) with regs := cpA 16 p2 (⟨0, 0, -1, 0, 0, 1, (List.replicate 16 (0 : Int))⟩ : T_worker_task).regs })).length := h.row_n; replace h := Fit.ren1 hn66 (fun q_ => rowOf 80 22 enc_T_worker_task (.slice caq40 q_ ccq41) ((S33.tasks.set 0 (⟨0, 0, -1, 0, 0, 1, (List.replicate 16 (0 : Int))⟩ : T_worker_task)).set 0 ({ (⟨0, 0, -1, 0, 0, 1, (List.replicate 16 (0 : Int))⟩ : T_worker_task) with regs := cpA 16 p2 (⟨0, 0, -1, 0, 0, 1, (List.replicate 16 (0 : Int))⟩ : T_worker_task).regs }))) (fun q_ => pts b12 (.cells #[.iface 37 (pA B0 0), .slice caq36 S33.code.length ccq37, vI S33.result, vI S33.table_Base, vI S33.table_Frames, vI S33.lot_Base, vI S33.lot_Workers, .slice caq38 S33.deques.length ccq39, .slice caq40 q_ ccq41, .slice ca52 l54.length cc53, vI S33.value, vB S33.left] 73)) h
   replace h := h.m1.m2
   have hn67 : l54.length = (((l54.set 0 ({ at_ l54 0 with frame := 0 })).set 0 ({ { at_ l54 0 with frame := 0 } with from_ := -1 })).set 0 ({ { { at_ l54 0 with frame := 0 } with from_ := -1 } with about := 0 })).length := h.row_n; replace h := Fit.ren1 hn67 (fun q_ => rowOf 97 188 (enc_T_worker_actor b12) (.slice ca52 q_ cc53) (((l54.set 0 ({ at_ l54 0 with frame := 0 })).set 0 ({ { at_ l54 0 with frame := 0 } with from_ := -1 })).set 0 ({ { { at_ l54 0 with frame := 0 } with from_ := -1 } with about := 0 }))) (fun q_ => pts b12 (.cells #[.iface 37 (pA B0 0), .slice caq36 S33.code.length ccq37, vI S33.result, vI S33.table_Base, vI S33.table_Frames, vI S33.lot_Base, vI S33.lot_Workers, .slice caq38 S33.deques.length ccq39, .slice caq40 ((S33.tasks.set 0 (⟨0, 0, -1, 0, 0, 1, (List.replicate 16 (0 : Int))⟩ : T_worker_task)).set 0 ({ (⟨0, 0, -1, 0, 0, 1, (List.replicate 16 (0 : Int))⟩ : T_worker_task) with regs := cpA 16 p2 (⟨0, 0, -1, 0, 0, 1, (List.replicate 16 (0 : Int))⟩ : T_worker_task).regs })).length ccq41, .slice ca52 q_ cc53, vI S33.value, vB S33.left] 73)) h
   cases H
   exact ⟨b12, caq36, ccq37, caq38, ccq39, caq40, ccq41, ca52, cc53, caq44, ccq45, caq46, ccq47, (by first | rfl | simp only [hn66, hn67]), h.se 8 [3, 4, 5, 1, 6, 7, 2, 0]⟩
  ·
   refine sr ?_
   refine oo [62, 10, 11] [vI r32, pN, vI r32] hr fun a hr => ?_
   refine ln ?_
   refine wp_ret ?_
   refine then_ret ?_
   refine end_ret2 (v := pN) (v' := vI r32) rfl hr (by kernel_rfl) (by kernel_rfl) ?_
   cases H
 ·
  refine sr ?_
  refine oo [27, 10, 11] [vI r7, pN, vI r7] hr fun a hr => ?_
  refine ln ?_
  refine wp_ret ?_
  refine then_ret ?_
  refine end_ret2 (v := pN) (v' := vI r7) rfl hr (by kernel_rfl) (by kernel_rfl) ?_
  cases H

theorem worker_New_iface_ok1 {z w : World} {L : List HProp} {K : Nat} {p0 q0 : T_cells_Arena} {p1 : T_api_Program} {p2 : List Int} {p3 r1 : Int} {p4 : T_api_Limits} {B0 cc2 cc4 vc1_Funcs vc2 : Nat} {ca1 ca3 va1_Funcs va2 : Option Addr} {hs1_Funcs : Nat → Option Addr × Nat} (H : worker_New_iface K p0 p1 p2 p3 p4 = some (none, r1, q0)) (h : Fit z (sepL (ob102 B0 p0 ca1 cc2 ca3 cc4 :: ro2 ca1 cc2 p0.cell :: ro111 ca3 cc4 p0.log :: L)) w) (hv1_Funcs : Rd76 L va1_Funcs hs1_Funcs p1.Funcs) (hv2 : RdRow L 1 encZ_i64 va2 p2) (hg0 : RdRow L 5 enc_T_anon155 (some ⟨0, 0, none⟩) gl0) :
    Calls Tryd.prog 4 #[.iface 37 (pA B0 0), .agg #[.slice va1_Funcs p1.Funcs.length vc1_Funcs], .slice va2 p2.length vc2, vI p3, ag_T_api_Limits p4] w fun e w => ∃ caq0_1 ccq0_2 caq0_3 ccq0_4, e = .returned (.tuple #[pN, vI r1]) ∧ Fit z (sepL (ob102 B0 q0 caq0_1 ccq0_2 caq0_3 ccq0_4 :: ro2 caq0_1 ccq0_2 q0.cell :: ro111 caq0_3 ccq0_4 q0.log :: L)) w := by
 unfold worker_New_iface at H
 refine enter Tryd.func4 rfl 103 rfl rfl [(0, .iface 37 (pA B0 0)), (1, .agg #[.slice va1_Funcs p1.Funcs.length vc1_Funcs]), (2, .slice va2 p2.length vc2), (3, vI p3), (4, ag_T_api_Limits p4)] ⟨rfl, rfl, rfl, rfl, rfl, trivial⟩ ?_
 intro j a hr
 refine sr ?_
 refine onew (wn rfl) hr h nb (#[.slice va1_Funcs p1.Funcs.length vc1_Funcs]) 24 fun b5 w a h hr => ?_
 refine onew (wn rfl) hr h nb (ca_T_api_Limits p4) 27 fun b6 w a h hr => ?_
 refine oo [10, 11] [pN, vI 0] hr fun a hr => ?_
 refine ln ?_
 refine wp_seq ?_
 refine sr ?_
 refine oo [18, 19] [.iface 37 (pA B0 0), vB false] hr fun a hr => ?_
 refine ln ?_
 refine cond_ff hr (b := false) rfl ?_
 refine wp_skip ?_
 refine then_normal ?_
 refine wp_seq ?_
 refine sr ?_
 refine ldm (wn rfl) hr (.agg #[.slice va1_Funcs p1.Funcs.length vc1_Funcs]) (cs := [.slice va1_Funcs p1.Funcs.length vc1_Funcs]) ⟨(h.pick 1).cell 0 rfl, trivial⟩ fun a hr => ?_
 refine oo [21, 22] [.slice va2 p2.length vc2, vI p3] hr fun a hr => ?_
 refine ldm (wn rfl) hr (ag_T_api_Limits p4) (cs := cl_T_api_Limits p4) (h.held 0 rfl) fun a hr => ?_
 obtain ⟨r7, e8, H⟩ := bd1 H
 have hc := worker_refuse_ok (va1 := va2) (vc1 := vc2) (hv1 := (RdRow.up 5 hv2)) (va0_Funcs := va1_Funcs) (vc0_Funcs := vc1_Funcs) (hv0_Funcs := (RdN.up 5 hv1_Funcs)) (hg0 := RdRow.up 5 hg0) (hs0_Funcs := hs1_Funcs) (H := e8) (h := h)
 refine cl (wn rfl) hr hc ?_; clear hc h
 rintro _ w ⟨rfl, h⟩; refine ⟨_, rfl, fun a hr => ?_⟩
 refine o1 hr (vI r7) fun a hr => ?_
 refine ln ?_
 refine sr ?_
 refine oo [25, 26] [vI r7, vB (r7 != 0)] hr fun a hr => ?_
 refine ln ?_
 refine cN hr H (fun c9 H => ?_) fun c9 H => ?_
 ·
  refine wp_skip ?_
  refine then_normal ?_
  refine sr ?_
  refine oo [28, 29] [.iface 37 (pA B0 0), pA b6 0] hr fun a hr => ?_
  refine ld (wn rfl) hr (vI p4.Frames) (h.cell 0 rfl) fun a hr => ?_
  obtain ⟨c10, H⟩ := gd H
  refine op_make_row (i := p4.Frames) (bytes := 176) (zc := ([vI 0, vI 0, vI 0, vI 0, vI 0, vI 0] ++ encA 16 encZ_i64 (List.replicate 16 (0 : Int))).toArray) (⟨0, 0, 0, 0, 0, 0, List.replicate 16 (0 : Int)⟩ : T_worker_task) (wn rfl) rfl rfl hr rfl (by kernel_rfl) (by kernel_rfl) c10 enc_T_worker_task_ok (E := 80) (by kernel_rfl) (by kernel_rfl) rfl rfl h fun ca11 w a h hr => ?_
  refine o1 hr (.agg #[.iface 37 (pA B0 0), .slice none 0 0, vI 0, vI 0, vI 0, vI 0, vI 0, .slice none 0 0, .slice ca11 (List.replicate p4.Frames.toNat (⟨0, 0, 0, 0, 0, 0, List.replicate 16 (0 : Int)⟩ : T_worker_task)).length p4.Frames.toNat, .slice none 0 0, vI 0, vB false]) fun a hr => ?_
  refine onew (wn rfl) hr h nb (#[.iface 37 (pA B0 0), .slice none 0 0, vI 0, vI 0, vI 0, vI 0, vI 0, .slice none 0 0, .slice ca11 (List.replicate p4.Frames.toNat (⟨0, 0, 0, 0, 0, 0, List.replicate 16 (0 : Int)⟩ : T_worker_task)).length p4.Frames.toNat, .slice none 0 0, vI 0, vB false]) 73 fun b12 w a h hr => ?_
  refine o1 hr (pA b12 0) fun a hr => ?_
  refine ln ?_
  obtain ⟨o17, H, hK16⟩ := kd1 H
  refine cut_rule (β := Unit) (fun _ a w => ∃ ca13 : Option Addr, ∃ cc14 : Nat, ∃ l15 : List T_api_Func, l15 = o17 ∧ ∃ j, Rep 103 (lk [(2, .slice va2 p2.length vc2), (3, vI p3), (9, pA b6 0), (13, pA b12 0)] j) a ∧ Fit z (sepL (ob27 b6 p4 :: pts b12 (.cells #[.iface 37 (pA B0 0), .slice ca13 l15.length cc14, vI 0, vI 0, vI 0, vI 0, vI 0, .slice none 0 0, .slice ca11 (List.replicate p4.Frames.toNat (⟨0, 0, 0, 0, 0, 0, List.replicate 16 (0 : Int)⟩ : T_worker_task)).length p4.Frames.toNat, .slice none 0 0, vI 0, vB false] 73) :: ob102 B0 p0 ca1 cc2 ca3 cc4 :: ro2 ca1 cc2 p0.cell :: ro111 ca3 cc4 p0.log :: rn76 ca13 cc14 l15 :: ro80 ca11 p4.Frames.toNat (List.replicate p4.Frames.toNat (⟨0, 0, 0, 0, 0, 0, List.replicate 16 (0 : Int)⟩ : T_worker_task)) :: L)) w) ?_ ?_
  ·
   refine sr ?_
   refine o1 hr (pA b5 0) fun a hr => ?_
   refine ld (wn rfl) hr (.slice va1_Funcs p1.Funcs.length vc1_Funcs) ((h.pick 3).cell 0 rfl) fun a hr => ?_
   refine oo [36, 37] [vI ((p1.Funcs.length : Nat) : Int), vI 0] hr fun a hr => ?_
   refine ln ?_
   refine wp_block ?_
   replace h := h.rowN_nil (e := 76) (sz := 4) (own := own_T_api_Func)
   refine loop_rule (β := Nat) id (fun m a w => ∃ ca18 : Option Addr, ∃ cc19 : Nat, ∃ l20 : List T_api_Func, ∃ g21 : Int, (worker_New_iface_l1 K p1 m l20 g21) = some o17 ∧ ∃ j, Rep 103 (lk [(2, .slice va2 p2.length vc2), (3, vI p3), (9, pA b6 0), (13, pA b12 0), (35, .slice va1_Funcs p1.Funcs.length vc1_Funcs), (36, vI ((p1.Funcs.length : Nat) : Int)), (37, vI g21)] j) a ∧ Fit z (sepL (ob27 b6 p4 :: pts b12 (.cells #[.iface 37 (pA B0 0), .slice ca18 l20.length cc19, vI 0, vI 0, vI 0, vI 0, vI 0, .slice none 0 0, .slice ca11 (List.replicate p4.Frames.toNat (⟨0, 0, 0, 0, 0, 0, List.replicate 16 (0 : Int)⟩ : T_worker_task)).length p4.Frames.toNat, .slice none 0 0, vI 0, vB false] 73) :: ob102 B0 p0 ca1 cc2 ca3 cc4 :: ro2 ca1 cc2 p0.cell :: ro111 ca3 cc4 p0.log :: rn76 ca18 cc19 l20 :: ro80 ca11 p4.Frames.toNat (List.replicate p4.Frames.toNat (⟨0, 0, 0, 0, 0, 0, List.replicate 16 (0 : Int)⟩ : T_worker_task)) :: L)) w) K ⟨none, 0, ([] : List T_api_Func), 0, H, hr.fj (h.se 8 [3, 1, 5, 6, 7, 0, 2])⟩ ?_
   clear h hr a H; rintro k1 a w ⟨ca18, cc19, l20, g21, H, j, hr, h⟩
   cases k1 with
   | zero => exact absurd H (by simp [worker_New_iface_l1])
   | succ k1 =>
    rw [worker_New_iface_l1] at H
    refine sr ?_
    refine o1 hr (vB (decide (g21 < ((p1.Funcs.length : Nat) : Int)))) fun a hr => ?_
    refine ln ?_
    refine wp_seq ?_
    refine cD hr H (fun c22 H => ?_) fun c22 H => ?_
    ·
     refine wp_skip ?_
     refine then_normal ?_
     refine wp_seq ?_
     refine wp_block ?_
     refine sr ?_
     obtain ⟨c23, H⟩ := gd H
     refine opv (wn rfl) hr (pA (blk va1_Funcs) (offs va1_Funcs + g21.toNat * 4)) (ri_rn (k := .i64) (E := 76) (cc := vc1_Funcs) rfl (by kernel_rfl) (by kernel_rfl) rfl (by kernel_rfl) (by kernel_rfl) hv1_Funcs c23) fun a hr => ?_
     refine ldm (wn rfl) hr (.agg #[vI (at_ p1.Funcs g21.toNat).Params, vI (at_ p1.Funcs g21.toNat).Regs, vI (at_ p1.Funcs g21.toNat).Slots, .slice ((hs1_Funcs g21.toNat).1) (at_ p1.Funcs g21.toNat).Code.length ((hs1_Funcs g21.toNat).2)]) (cs := [vI (at_ p1.Funcs g21.toNat).Params, vI (at_ p1.Funcs g21.toNat).Regs, vI (at_ p1.Funcs g21.toNat).Slots, .slice ((hs1_Funcs g21.toNat).1) (at_ p1.Funcs g21.toNat).Code.length ((hs1_Funcs g21.toNat).2)]) ⟨hv1_Funcs.cell c23 (h.dn 7) 0 rfl, hv1_Funcs.cell c23 (h.dn 7) 1 rfl, hv1_Funcs.cell c23 (h.dn 7) 2 rfl, hv1_Funcs.cell c23 (h.dn 7) 3 rfl, trivial⟩ fun a hr => ?_
     refine onew (wn rfl) hr h nb (#[vI 0, vI 0, vI 0, .slice none 0 0]) 76 fun b24 w a h hr => ?_
     refine stm (wn rfl) hr h 0 ([vI (at_ p1.Funcs g21.toNat).Params, vI (at_ p1.Funcs g21.toNat).Regs, vI (at_ p1.Funcs g21.toNat).Slots, .slice ((hs1_Funcs g21.toNat).1) (at_ p1.Funcs g21.toNat).Code.length ((hs1_Funcs g21.toNat).2)]) (ob76 b24 (at_ p1.Funcs g21.toNat) ((hs1_Funcs g21.toNat).1) ((hs1_Funcs g21.toNat).2)) fun w h => ?_
     refine ln ?_
     refine sr ?_
     refine o1 hr (pA b24 3) fun a hr => ?_
     refine ld (wn rfl) hr (.slice ((hs1_Funcs g21.toNat).1) (at_ p1.Funcs g21.toNat).Code.length ((hs1_Funcs g21.toNat).2)) (h.cell 3 rfl) fun a hr => ?_
     replace h := h.row_nil (e := 108) (sz := 5) (enc := enc_T_api_Instr)
     obtain ⟨c27, H⟩ := gd H
     refine op_append_rd (m0 := 0) (n0 := 0) (va := ((hs1_Funcs g21.toNat).1)) (c := ((hs1_Funcs g21.toNat).2)) (bytes := 40) (wn rfl) rfl rfl hr rfl (by kernel_rfl) (by kernel_rfl) enc_T_api_Instr_ok (E := 108) (xs := ([] : List T_api_Instr)) (by kernel_rfl) (by kernel_rfl) h (news := (at_ p1.Funcs g21.toNat).Code) (RdRow.up 8 (hv1_Funcs.inn c23)) c27 rfl fun ca25 cc26 w a h hr => ?_
     refine o1 hr (pA b24 3) fun a hr => ?_
     replace h := h.m1
     refine st1 (wn rfl) hr h 3 (.slice ca25 (([] : List T_api_Instr) ++ (at_ p1.Funcs g21.toNat).Code).length cc26) (pts b24 (.cells #[vI (at_ p1.Funcs g21.toNat).Params, vI (at_ p1.Funcs g21.toNat).Regs, vI (at_ p1.Funcs g21.toNat).Slots, .slice ca25 (([] : List T_api_Instr) ++ (at_ p1.Funcs g21.toNat).Code).length cc26] 76)) fun w h => ?_
     refine ln ?_
     obtain ⟨c29, H⟩ := gd H
     refine regL [(b12, 1, [.slice ca18 l20.length cc19]), (b24, 0, [vI (at_ p1.Funcs g21.toNat).Params, vI (at_ p1.Funcs g21.toNat).Regs, vI (at_ p1.Funcs g21.toNat).Slots, .slice ca25 (([] : List T_api_Instr) ++ (at_ p1.Funcs g21.toNat).Code).length cc26])] [2, 3] 11 h (fun h => ⟨⟨(h.pick 3).cell 1 rfl, trivial⟩, (h.held 0 rfl), trivial⟩) fun w h hd => ?_
     refine evs' hd 7 [(0, 45, pA b12 0), (1, 46, pA b12 0), (2, 47, pA b12 0), (3, 48, pA b12 1)] hr fun a hr => ?_
     refine elx hd 0 6 4 hr (wn rfl) rfl rfl fun a hr => ?_
     refine elm hd 1 5 5 hr (wn rfl) rfl rfl fun a hr => ?_
     refine eo1 6 rfl ?_
     refine onew (wn rfl) hr h (fun b => .slice (some ⟨b, 0, none⟩) 1 1) (#[vI (at_ p1.Funcs g21.toNat).Params, vI (at_ p1.Funcs g21.toNat).Regs, vI (at_ p1.Funcs g21.toNat).Slots, .slice ca25 (([] : List T_api_Instr) ++ (at_ p1.Funcs g21.toNat).Code).length cc26]) 76 fun b28 w a h hr => ?_
     refine ln ?_
     refine xE ?_
     refine eo1 7 rfl ?_
     replace h := h.m2
     replace h := own_T_api_Func_sh (x := ({ at_ p1.Funcs g21.toNat with Code := ([] : List T_api_Instr) ++ (at_ p1.Funcs g21.toNat).Code })) h
     replace h := h.m8
     refine op_append_N (n0 := l20.length) (c := 1) (bytes := 48) (sz := 4) (wn rfl) rfl rfl hr rfl (by kernel_rfl) (by kernel_rfl) (E := 76) (xs := l20) (by kernel_rfl) (by kernel_rfl) rfl rfl rfl h ((h.pick 2).news rfl) c29 rfl fun ca30 cc31 w a h hr => ?_
     refine ln ?_
     refine xE ?_
     refine evs 2 8 rfl (wn rfl) hr (pA b12 0) fun a hr => ?_
     refine evs 1 9 rfl (wn rfl) hr (pA b12 1) fun a hr => ?_
     refine eo1 10 rfl ?_
     replace h := h.m4
     refine st1 (wn rfl) hr h 1 (.slice ca30 (l20 ++ [{ at_ p1.Funcs g21.toNat with Code := ([] : List T_api_Instr) ++ (at_ p1.Funcs g21.toNat).Code }]).length cc31) (pts b12 (.cells #[.iface 37 (pA B0 0), .slice ca30 (l20 ++ [{ at_ p1.Funcs g21.toNat with Code := ([] : List T_api_Instr) ++ (at_ p1.Funcs g21.toNat).Code }]).length cc31, vI 0, vI 0, vI 0, vI 0, vI 0, .slice none 0 0, .slice ca11 (List.replicate p4.Frames.toNat (⟨0, 0, 0, 0, 0, 0, List.replicate 16 (0 : Int)⟩ : T_worker_task)).length p4.Frames.toNat, .slice none 0 0, vI 0, vB false] 73)) fun w h => ?_
     refine ln ?_
     refine xE ?_
     refine een ?_
     refine blk_normal ?_
     refine then_normal ?_
     refine wp_region_lit ?_
     refine oo [55, 37] [vI (wi (g21 + 1)), vI (wi (g21 + 1))] hr fun a hr => ?_
     refine ln ?_
     exact ⟨_, ⟨ca30, cc31, (l20 ++ [{ at_ p1.Funcs g21.toNat with Code := ([] : List T_api_Instr) ++ (at_ p1.Funcs g21.toNat).Code }]), (wi (g21 + 1)), H, hr.fj (h.se 9 [4, 0, 5, 6, 7, 1, 8])⟩, Nat.lt_succ_self _⟩
    ·
     refine wp_exit ?_
     refine then_exit ?_
     refine then_exit ?_
     refine blk_here ?_
     refine then_normal ?_
     exact ⟨(), ca18, cc19, l20, sinj H, hr.fj h⟩
  clear h hr a; rintro _ a w ⟨ca13, cc14, l15, rfl, j, hr, h⟩
  replace H := kk1 hK16
  refine wp_seq ?_
  refine sr ?_
  refine oo [56, 57] [pA b12 0, vI p3] hr fun a hr => ?_
  refine ldm (wn rfl) hr (ag_T_api_Limits p4) (cs := cl_T_api_Limits p4) (h.held 0 rfl) fun a hr => ?_
  replace h := h.row_nil (e := 84) (sz := 2) (enc := enc_T_deque_Deque)
  replace h := h.row_nil (e := 97) (sz := 188) (enc := (enc_T_worker_actor b12))
  obtain ⟨r32, S33, S34, e35, H⟩ := bd3 H
  replace h := h.m6.m6.m6.m3.m8.m5.m8.m8
  have hc := worker_World_lay_ok (H := e35) (h := h)
  refine cl (wn rfl) hr hc ?_; clear hc h
  rintro _ w ⟨caq36, ccq37, caq38, ccq39, caq40, ccq41, caq42, ccq43, caq44, ccq45, caq46, ccq47, rfl, h⟩; refine ⟨_, rfl, fun a hr => ?_⟩
  refine o1 hr (vI r32) fun a hr => ?_
  refine ln ?_
  refine sr ?_
  refine oo [60, 61] [vI r32, vB (r32 != 0)] hr fun a hr => ?_
  refine ln ?_
  refine cN hr H (fun c48 H => ?_) fun c48 H => ?_
  ·
   refine wp_skip ?_
   refine then_normal ?_
   refine sr ?_
   refine oo [63, 64, 65] [pA b12 0, pA b12 0, pA b12 8] hr fun a hr => ?_
   refine ld (wn rfl) hr (.slice caq40 S33.tasks.length ccq41) (h.cell 8 rfl) fun a hr => ?_
   obtain ⟨c49, H⟩ := gd H
   refine o1 hr (.agg ([vI 0, vI 0, vI (-1), vI 0, vI 0, vI 1] ++ encA 16 encZ_i64 (List.replicate 16 (0 : Int))).toArray) fun a hr => ?_
   refine opv (wn rfl) hr (pA (blk caq40) (0 * 22)) (ri_row (i := (0 : Int)) (k := .i64) (E := 80) rfl (by kernel_rfl) (by kernel_rfl) (by kernel_rfl) (by kernel_rfl) (h.pick 3) c49) fun a hr => ?_
   replace h := h.m3
   refine op_stores_row (wn rfl) rfl hr rfl (by kernel_rfl) (by kernel_rfl) (vs := [vI 0, vI 0, vI (-1), vI 0, vI 0, vI 1] ++ encA 16 encZ_i64 (List.replicate 16 (0 : Int))) rfl (by kernel_rfl) enc_T_worker_task_ok h (i := 0) (q := (⟨0, 0, -1, 0, 0, 1, (List.replicate 16 (0 : Int))⟩ : T_worker_task)) (at_okL c49) rfl fun w h => ?_
   refine ln ?_
   refine sr ?_
   refine oo [69, 70, 71] [pA b12 0, pA b12 0, pA b12 8] hr fun a hr => ?_
   refine ld (wn rfl) hr (.slice caq40 S33.tasks.length ccq41) ((h.pick 1).cell 8 rfl) fun a hr => ?_
   obtain ⟨c50, H⟩ := gd H
   refine opv (wn rfl) hr (pA (blk caq40) (0 * 22)) (ri_row (i := (0 : Int)) (k := .i64) (E := 80) rfl (by kernel_rfl) (by kernel_rfl) (by kernel_rfl) (by kernel_rfl) h c50) fun a hr => ?_
   obtain ⟨c51, H⟩ := gd H
   refine oo [74, 75, 76] [pA (blk caq40) (0 * 22 + 6), .slice (some ⟨blk caq40, 0 * 22 + 6, none⟩) 16 16, .slice va2 p2.length vc2] hr fun a hr => ?_
   refine op_copy_in (cv := vc2) (N := 16) (f := 6) (i := 0) (I := 2) (ys := p2) (wn rfl) rfl rfl hr rfl (by kernel_rfl) (by kernel_rfl) enc_T_worker_task_ok encZ_i64_ok (by kernel_rfl) (by kernel_rfl) c51 h (RdRow.up 0 (RdRow.up 8 hv2)) (p := (⟨0, 0, -1, 0, 0, 1, (List.replicate 16 (0 : Int))⟩ : T_worker_task)) (q := ({ (⟨0, 0, -1, 0, 0, 1, (List.replicate 16 (0 : Int))⟩ : T_worker_task) with regs := cpA 16 p2 (⟨0, 0, -1, 0, 0, 1, (List.replicate 16 (0 : Int))⟩ : T_worker_task).regs })) (get_set ((by simpa [inr_] using c50))) (by have := c51; omega) (by have e := encA_cp (N := 16) encZ_i64_ok (l := (⟨0, 0, -1, 0, 0, 1, (List.replicate 16 (0 : Int))⟩ : T_worker_task).regs) c51; show [vI (⟨0, 0, -1, 0, 0, 1, (List.replicate 16 (0 : Int))⟩ : T_worker_task).fn, vI (⟨0, 0, -1, 0, 0, 1, (List.replicate 16 (0 : Int))⟩ : T_worker_task).at_, vI (⟨0, 0, -1, 0, 0, 1, (List.replicate 16 (0 : Int))⟩ : T_worker_task).parent, vI (⟨0, 0, -1, 0, 0, 1, (List.replicate 16 (0 : Int))⟩ : T_worker_task).slot, vI (⟨0, 0, -1, 0, 0, 1, (List.replicate 16 (0 : Int))⟩ : T_worker_task).kids, vI (⟨0, 0, -1, 0, 0, 1, (List.replicate 16 (0 : Int))⟩ : T_worker_task).ped] ++ encA 16 encZ_i64 (cpA 16 p2 (⟨0, 0, -1, 0, 0, 1, (List.replicate 16 (0 : Int))⟩ : T_worker_task).regs) = _; rw [e]; exact cp_hq rfl) fun w a h hr => ?_
   refine ln ?_
   obtain ⟨o56, H, hK55⟩ := kd1 H
   refine cut_rule (β := Unit) (fun _ a w => ∃ ca52 : Option Addr, ∃ cc53 : Nat, ∃ l54 : List T_worker_actor, l54 = o56 ∧ ∃ j, Rep 103 (lk [(13, pA b12 0)] j) a ∧ Fit z (sepL (pts b12 (.cells #[.iface 37 (pA B0 0), .slice caq36 S33.code.length ccq37, vI S33.result, vI S33.table_Base, vI S33.table_Frames, vI S33.lot_Base, vI S33.lot_Workers, .slice caq38 S33.deques.length ccq39, .slice caq40 S33.tasks.length ccq41, .slice ca52 l54.length cc53, vI S33.value, vB S33.left] 73) :: ob102 B0 S34 caq44 ccq45 caq46 ccq47 :: ro2 caq44 ccq45 S34.cell :: ro111 caq46 ccq47 S34.log :: rn76 caq36 ccq37 S33.code :: ro84 caq38 ccq39 S33.deques :: rowOf 80 22 enc_T_worker_task (.slice caq40 S33.tasks.length ccq41) ((S33.tasks.set 0 (⟨0, 0, -1, 0, 0, 1, (List.replicate 16 (0 : Int))⟩ : T_worker_task)).set 0 ({ (⟨0, 0, -1, 0, 0, 1, (List.replicate 16 (0 : Int))⟩ : T_worker_task) with regs := cpA 16 p2 (⟨0, 0, -1, 0, 0, 1, (List.replicate 16 (0 : Int))⟩ : T_worker_task).regs })) :: ro97 b12 ca52 cc53 l54 :: L)) w) ?_ ?_
   ·
    refine sr ?_
    refine oo [78, 79] [vI p3, vI 0] hr fun a hr => ?_
    refine ln ?_
    refine wp_block ?_
    refine loop_rule (β := Nat) id (fun m a w => ∃ ca57 : Option Addr, ∃ cc58 : Nat, ∃ l59 : List T_worker_actor, ∃ g60 : Int, (worker_New_iface_l2 K p3 m l59 g60) = some o56 ∧ ∃ j, Rep 103 (lk [(13, pA b12 0), (78, vI p3), (79, vI g60)] j) a ∧ Fit z (sepL (pts b12 (.cells #[.iface 37 (pA B0 0), .slice caq36 S33.code.length ccq37, vI S33.result, vI S33.table_Base, vI S33.table_Frames, vI S33.lot_Base, vI S33.lot_Workers, .slice caq38 S33.deques.length ccq39, .slice caq40 S33.tasks.length ccq41, .slice ca57 l59.length cc58, vI S33.value, vB S33.left] 73) :: ob102 B0 S34 caq44 ccq45 caq46 ccq47 :: ro2 caq44 ccq45 S34.cell :: ro111 caq46 ccq47 S34.log :: rn76 caq36 ccq37 S33.code :: ro84 caq38 ccq39 S33.deques :: rowOf 80 22 enc_T_worker_task (.slice caq40 S33.tasks.length ccq41) ((S33.tasks.set 0 (⟨0, 0, -1, 0, 0, 1, (List.replicate 16 (0 : Int))⟩ : T_worker_task)).set 0 ({ (⟨0, 0, -1, 0, 0, 1, (List.replicate 16 (0 : Int))⟩ : T_worker_task) with regs := cpA 16 p2 (⟨0, 0, -1, 0, 0, 1, (List.replicate 16 (0 : Int))⟩ : T_worker_task).regs })) :: ro97 b12 ca57 cc58 l59 :: L)) w) K ⟨caq42, ccq43, S33.workers, 0, H, hr.fj (h.se 9 [1, 5, 6, 7, 2, 3, 0, 4])⟩ ?_
    clear h hr a H; rintro k2 a w ⟨ca57, cc58, l59, g60, H, j, hr, h⟩
    cases k2 with
    | zero => exact absurd H (by simp [worker_New_iface_l2])
    | succ k2 =>
     rw [worker_New_iface_l2] at H
     refine sr ?_
     refine o1 hr (vB (decide (g60 < p3))) fun a hr => ?_
     refine ln ?_
     refine wp_seq ?_
     refine cD hr H (fun c61 H => ?_) fun c61 H => ?_
     ·
      refine wp_skip ?_
      refine then_normal ?_
      refine wp_seq ?_
      refine wp_block ?_
      refine sr ?_
      refine oo [81, 17] [vI g60, vI g60] hr fun a hr => ?_
      refine ln ?_
      refine wp_region_lit ?_
      refine oo [82, 83, 84, 85] [pA b12 0, pA b12 0, pA b12 0, pA b12 9] hr fun a hr => ?_
      refine ld (wn rfl) hr (.slice ca57 l59.length cc58) (h.cell 9 rfl) fun a hr => ?_
      refine oo [87, 88, 89, 90] [pA b12 0, vI g60, .agg #[pA b12 0, vI g60], .agg ([pA b12 0, vI g60, vI 9, vI (-1), vI 0, vI 0, vI 0, vI 0, vI 0] ++ enc_T_deque_Op (⟨0, 0, 0, 0, 0, 0, 0, 0, 0, 0, 0, 0, 0, false, 0, 0⟩ : T_deque_Op) ++ enc_T_frames_Op (⟨0, 0, 0, 0, 0, 0, 0, 0, 0⟩ : T_frames_Op) ++ enc_T_park_Op (⟨0, 0, 0, 0, 0, 0, 0, 0, 0, List.replicate 64 (⟨0, 0⟩ : T_deque_Deque), (⟨0, 0, 0, 0, 0, 0, 0, 0, 0, 0, 0, 0, 0, false, 0, 0⟩ : T_deque_Op)⟩ : T_park_Op) ++ [vB false]).toArray] hr fun a hr => ?_
      refine onew (wn rfl) hr h (fun b => .slice (some ⟨b, 0, none⟩) 1 1) (([pA b12 0, vI g60, vI 9, vI (-1), vI 0, vI 0, vI 0, vI 0, vI 0] ++ enc_T_deque_Op (⟨0, 0, 0, 0, 0, 0, 0, 0, 0, 0, 0, 0, 0, false, 0, 0⟩ : T_deque_Op) ++ enc_T_frames_Op (⟨0, 0, 0, 0, 0, 0, 0, 0, 0⟩ : T_frames_Op) ++ enc_T_park_Op (⟨0, 0, 0, 0, 0, 0, 0, 0, 0, List.replicate 64 (⟨0, 0⟩ : T_deque_Deque), (⟨0, 0, 0, 0, 0, 0, 0, 0, 0, 0, 0, 0, 0, false, 0, 0⟩ : T_deque_Op)⟩ : T_park_Op) ++ [vB false]).toArray) 97 fun b62 w a h hr => ?_
      replace h := h.m8
      obtain ⟨c65, H⟩ := gd H
      refine op_append (n0 := l59.length) (c := 1) (bytes := 1504) (wn rfl) rfl rfl hr rfl (by kernel_rfl) (by kernel_rfl) (enc_T_worker_actor_ok b12) (E := 97) (xs := l59) (by kernel_rfl) (by kernel_rfl) h (news := [(⟨g60, 9, -1, 0, 0, 0, 0, 0, (⟨0, 0, 0, 0, 0, 0, 0, 0, 0, 0, 0, 0, 0, false, 0, 0⟩ : T_deque_Op), (⟨0, 0, 0, 0, 0, 0, 0, 0, 0⟩ : T_frames_Op), (⟨0, 0, 0, 0, 0, 0, 0, 0, 0, List.replicate 64 (⟨0, 0⟩ : T_deque_Deque), (⟨0, 0, 0, 0, 0, 0, 0, 0, 0, 0, 0, 0, 0, false, 0, 0⟩ : T_deque_Op)⟩ : T_park_Op), false⟩ : T_worker_actor)]) (m := 1) rfl ((h.pick 1).news rfl) c65 rfl fun ca63 cc64 w a h hr => ?_
      refine oo [93, 94] [pA b12 0, pA b12 9] hr fun a hr => ?_
      replace h := h.m2
      refine st1 (wn rfl) hr h 9 (.slice ca63 (l59 ++ [(⟨g60, 9, -1, 0, 0, 0, 0, 0, (⟨0, 0, 0, 0, 0, 0, 0, 0, 0, 0, 0, 0, 0, false, 0, 0⟩ : T_deque_Op), (⟨0, 0, 0, 0, 0, 0, 0, 0, 0⟩ : T_frames_Op), (⟨0, 0, 0, 0, 0, 0, 0, 0, 0, List.replicate 64 (⟨0, 0⟩ : T_deque_Deque), (⟨0, 0, 0, 0, 0, 0, 0, 0, 0, 0, 0, 0, 0, false, 0, 0⟩ : T_deque_Op)⟩ : T_park_Op), false⟩ : T_worker_actor)]).length cc64) (pts b12 (.cells #[.iface 37 (pA B0 0), .slice caq36 S33.code.length ccq37, vI S33.result, vI S33.table_Base, vI S33.table_Frames, vI S33.lot_Base, vI S33.lot_Workers, .slice caq38 S33.deques.length ccq39, .slice caq40 S33.tasks.length ccq41, .slice ca63 (l59 ++ [(⟨g60, 9, -1, 0, 0, 0, 0, 0, (⟨0, 0, 0, 0, 0, 0, 0, 0, 0, 0, 0, 0, 0, false, 0, 0⟩ : T_deque_Op), (⟨0, 0, 0, 0, 0, 0, 0, 0, 0⟩ : T_frames_Op), (⟨0, 0, 0, 0, 0, 0, 0, 0, 0, List.replicate 64 (⟨0, 0⟩ : T_deque_Deque), (⟨0, 0, 0, 0, 0, 0, 0, 0, 0, 0, 0, 0, 0, false, 0, 0⟩ : T_deque_Op)⟩ : T_park_Op), false⟩ : T_worker_actor)]).length cc64, vI S33.value, vB S33.left] 73)) fun w h => ?_
      refine wpList_nil ?_
      refine blk_normal ?_
      refine then_normal ?_
      refine wp_region_lit ?_
      refine oo [95, 79] [vI (wi (g60 + 1)), vI (wi (g60 + 1))] hr fun a hr => ?_
      refine ln ?_
      exact ⟨_, ⟨ca63, cc64, (l59 ++ [(⟨g60, 9, -1, 0, 0, 0, 0, 0, (⟨0, 0, 0, 0, 0, 0, 0, 0, 0, 0, 0, 0, 0, false, 0, 0⟩ : T_deque_Op), (⟨0, 0, 0, 0, 0, 0, 0, 0, 0⟩ : T_frames_Op), (⟨0, 0, 0, 0, 0, 0, 0, 0, 0, List.replicate 64 (⟨0, 0⟩ : T_deque_Deque), (⟨0, 0, 0, 0, 0, 0, 0, 0, 0, 0, 0, 0, 0, false, 0, 0⟩ : T_deque_Op)⟩ : T_park_Op), false⟩ : T_worker_actor)]), (wi (g60 + 1)), H, hr.fj (h.se 9 [0, 3, 4, 5, 6, 7, 8, 1])⟩, Nat.lt_succ_self _⟩
     ·
      refine wp_exit ?_
      refine then_exit ?_
      refine then_exit ?_
      refine blk_here ?_
      refine then_normal ?_
      exact ⟨(), ca57, cc58, l59, sinj H, hr.fj h⟩
   clear h hr a; rintro _ a w ⟨ca52, cc53, l54, rfl, j, hr, h⟩
   replace H := kk1 hK55
   refine sr ?_
   refine oo [96, 97, 98] [pA b12 0, pA b12 0, pA b12 9] hr fun a hr => ?_
   refine ld (wn rfl) hr (.slice ca52 l54.length cc53) (h.cell 9 rfl) fun a hr => ?_
   obtain ⟨c66, H⟩ := gd H
   refine opv (wn rfl) hr (pA (blk ca52) (0 * 188)) (ri_row (i := (0 : Int)) (k := .i64) (E := 97) rfl (by kernel_rfl) (by kernel_rfl) (by kernel_rfl) (by kernel_rfl) (h.pick 7) c66) fun a hr => ?_
   refine op_inl (wn rfl) rfl rfl hr (f := 23) (args := #[pA (blk ca52) (0 * 188), vI 0, vI (-1)]) (by kernel_rfl) ?_; clear hr a
   refine enter Tryd.func23 rfl 17 rfl rfl [(0, pA (blk ca52) (0 * 188)), (1, vI 0), (2, vI (-1))] ⟨by kernel_rfl, by kernel_rfl, by kernel_rfl, trivial⟩ ?_; intro j a hr
   refine wp_region_lit ?_
   refine oo [6, 7, 8, 9, 10, 11, 12] [pA (blk ca52) (0 * 188), pA (blk ca52) (0 * 188), pA (blk ca52) (0 * 188), vI 0, vI (-1), pA (blk ca52) (0 * 188), pA (blk ca52) (0 * 188 + 3)] hr fun a hr => ?_
   replace h := h.m7
   refine op_store_row (wn rfl) rfl hr rfl (by kernel_rfl) (by kernel_rfl) (v := vI 0) rfl rfl (by kernel_rfl) (enc_T_worker_actor_ok b12) h (i := 0) (f := 3) (p := (at_ l54 0)) (q := ({ at_ l54 0 with frame := 0 })) (at_ok c66) (by decide) rfl fun w h => ?_
   refine oo [13, 14] [pA (blk ca52) (0 * 188), pA (blk ca52) (0 * 188 + 4)] hr fun a hr => ?_
   refine op_store_row (wn rfl) rfl hr rfl (by kernel_rfl) (by kernel_rfl) (v := vI (-1)) rfl rfl (by kernel_rfl) (enc_T_worker_actor_ok b12) h (i := 0) (f := 4) (p := { at_ l54 0 with frame := 0 }) (q := ({ { at_ l54 0 with frame := 0 } with from_ := -1 })) (get_set (at_okL c66)) (by decide) rfl fun w h => ?_
   refine oo [15, 16] [pA (blk ca52) (0 * 188), pA (blk ca52) (0 * 188 + 2)] hr fun a hr => ?_
   refine op_store_row (wn rfl) rfl hr rfl (by kernel_rfl) (by kernel_rfl) (v := vI 0) rfl rfl (by kernel_rfl) (enc_T_worker_actor_ok b12) h (i := 0) (f := 2) (p := { { at_ l54 0 with frame := 0 } with from_ := -1 }) (q := ({ { { at_ l54 0 with frame := 0 } with from_ := -1 } with about := 0 })) (get_set ((by simpa [inr_] using c66))) (by decide) rfl fun w h => ?_
   refine wpList_nil ?_
   refine end_norm0 rfl hr ?_
   refine ⟨_, rfl, ?_⟩; clear hr a; intro a hr
   refine ln ?_
   refine sr ?_
   refine oo [102, 10, 11] [pA b12 0, pA b12 0, vI 0] hr fun a hr => ?_
   refine ln ?_
   refine wp_ret ?_
   refine end_ret2 (v := pA b12 0) (v' := vI 0) rfl hr (by kernel_rfl) (by kernel_rfl) ?_
   replace h := h.m1.m7
   have hn66 : S33.tasks.length = ((S33.tasks.set 0 (⟨0, 0, -1, 0, 0, 1, (List.replicate 16 (0 : Int))⟩ : T_worker_task)).set 0 ({ (⟨0, 0, -1, 0, 0, 1, (List.replicate 16 (0 : Int))⟩ : T_worker_task) with regs := cpA 16 p2 (⟨0, 0, -1, 0, 0, 1, (List.replicate 16 (0 : Int))⟩ : T_worker_task).regs })).length := h.row_n; replace h := Fit.ren1 hn66 (fun q_ => rowOf 80 22 enc_T_worker_task (.slice caq40 q_ ccq41) ((S33.tasks.set 0 (⟨0, 0, -1, 0, 0, 1, (List.replicate 16 (0 : Int))⟩ : T_worker_task)).set 0 ({ (⟨0, 0, -1, 0, 0, 1, (List.replicate 16 (0 : Int))⟩ : T_worker_task) with regs := cpA 16 p2 (⟨0, 0, -1, 0, 0, 1, (List.replicate 16 (0 : Int))⟩ : T_worker_task).regs }))) (fun q_ => pts b12 (.cells #[.iface 37 (pA B0 0), .slice caq36 S33.code.length ccq37, vI S33.result, vI S33.table_Base, vI S33.table_Frames, vI S33.lot_Base, vI S33.lot_Workers, .slice caq38 S33.deques.length ccq39, .slice caq40 q_ ccq41, .slice ca52 l54.length cc53, vI S33.value, vB S33.left] 73)) h
   replace h := h.m1.m2
   have hn67 : l54.length = (((l54.set 0 ({ at_ l54 0 with frame := 0 })).set 0 ({ { at_ l54 0 with frame := 0 } with from_ := -1 })).set 0 ({ { { at_ l54 0 with frame := 0 } with from_ := -1 } with about := 0 })).length := h.row_n; replace h := Fit.ren1 hn67 (fun q_ => rowOf 97 188 (enc_T_worker_actor b12) (.slice ca52 q_ cc53) (((l54.set 0 ({ at_ l54 0 with frame := 0 })).set 0 ({ { at_ l54 0 with frame := 0 } with from_ := -1 })).set 0 ({ { { at_ l54 0 with frame := 0 } with from_ := -1 } with about := 0 }))) (fun q_ => pts b12 (.cells #[.iface 37 (pA B0 0), .slice caq36 S33.code.length ccq37, vI S33.result, vI S33.table_Base, vI S33.table_Frames, vI S33.lot_Base, vI S33.lot_Workers, .slice caq38 S33.deques.length ccq39, .slice caq40 ((S33.tasks.set 0 (⟨0, 0, -1, 0, 0, 1, (List.replicate 16 (0 : Int))⟩ : T_worker_task)).set 0 ({ (⟨0, 0, -1, 0, 0, 1, (List.replicate 16 (0 : Int))⟩ : T_worker_task) with regs := cpA 16 p2 (⟨0, 0, -1, 0, 0, 1, (List.replicate 16 (0 : Int))⟩ : T_worker_task).regs })).length ccq41, .slice ca52 q_ cc53, vI S33.value, vB S33.left] 73)) h
   cases H
  ·
   refine sr ?_
   refine oo [62, 10, 11] [vI r32, pN, vI r32] hr fun a hr => ?_
   refine ln ?_
   refine wp_ret ?_
   refine then_ret ?_
   refine end_ret2 (v := pN) (v' := vI r32) rfl hr (by kernel_rfl) (by kernel_rfl) ?_
   cases H
   exact ⟨caq44, ccq45, caq46, ccq47, rfl, h.se 9 [5, 6, 7]⟩
 ·
  refine sr ?_
  refine oo [27, 10, 11] [vI r7, pN, vI r7] hr fun a hr => ?_
  refine ln ?_
  refine wp_ret ?_
  refine then_ret ?_
  refine end_ret2 (v := pN) (v' := vI r7) rfl hr (by kernel_rfl) (by kernel_rfl) ?_
  cases H
  exact ⟨ca1, cc2, ca3, cc4, rfl, h.se 5 [2, 3, 4]⟩

/-- plunder/worker.New -/
def worker_New (p1 : T_api_Program) (p2 : List Int) (p3 : Int) (p4 : T_api_Limits) : Option (Int) :=
  some 1

theorem worker_New_ok {z w : World} {L : List HProp} {p1 : T_api_Program} {p2 : List Int} {p3 r1 : Int} {p4 : T_api_Limits} {va1_Funcs va2 : Option Addr} {vc1_Funcs vc2 : Nat} {hs1_Funcs : Nat → Option Addr × Nat} (H : worker_New p1 p2 p3 p4 = some r1) (h : Fit z (sepL (L)) w) (hv1_Funcs : Rd76 L va1_Funcs hs1_Funcs p1.Funcs) (hv2 : RdRow L 1 encZ_i64 va2 p2) :
    Calls Tryd.prog 4 #[.nilIface, .agg #[.slice va1_Funcs p1.Funcs.length vc1_Funcs], .slice va2 p2.length vc2, vI p3, ag_T_api_Limits p4] w fun e w => e = .returned (.tuple #[pN, vI r1]) ∧ Fit z (sepL (L)) w := by
 unfold worker_New at H
 refine enter Tryd.func4 rfl 103 rfl rfl [(0, .nilIface), (1, .agg #[.slice va1_Funcs p1.Funcs.length vc1_Funcs]), (2, .slice va2 p2.length vc2), (3, vI p3), (4, ag_T_api_Limits p4)] ⟨rfl, rfl, rfl, rfl, rfl, trivial⟩ ?_
 intro j a hr
 refine sr ?_
 refine onew (wn rfl) hr h nb (#[.slice va1_Funcs p1.Funcs.length vc1_Funcs]) 24 fun b1 w a h hr => ?_
 refine onew (wn rfl) hr h nb (ca_T_api_Limits p4) 27 fun b2 w a h hr => ?_
 refine oo [10, 11] [pN, vI 0] hr fun a hr => ?_
 refine ln ?_
 refine wp_seq ?_
 refine sr ?_
 refine oo [18, 19] [.nilIface, vB true] hr fun a hr => ?_
 refine ln ?_
 refine cond_tt hr (b := true) rfl ?_
 refine sr ?_
 refine oo [10, 11] [pN, vI 1] hr fun a hr => ?_
 refine ln ?_
 refine wp_ret ?_
 refine then_ret ?_
 refine end_ret2 (v := pN) (v' := vI 1) rfl hr (by kernel_rfl) (by kernel_rfl) ?_
 replace H := ej1 H; subst H
 exact ⟨rfl, h.se 2 []⟩

/-- plunder/cells.good -/
def cells_good (p0 : Int) : Option (Bool) :=
  (if p0 ≥ 0 then some (decide (p0 ≤ 1048576)) else some false)

theorem cells_good_ok {z w : World} {L : List HProp} {p0 : Int} {r0 : Bool} (H : cells_good p0 = some r0) (h : Fit z (sepL (L)) w)  :
    Calls Tryd.prog 24 #[vI p0] w fun e w => e = .returned (vB r0) ∧ Fit z (sepL (L)) w := by
 unfold cells_good at H
 refine enter Tryd.func24 rfl 9 rfl rfl [(0, vI p0)] ⟨rfl, trivial⟩ ?_
 intro j a hr
 refine sr ?_
 refine o1 hr (vB false) fun a hr => ?_
 refine ln ?_
 refine sr ?_
 refine oo [3, 4, 5] [vI p0, vB (decide (p0 ≥ 0)), vB (decide (p0 ≥ 0))] hr fun a hr => ?_
 by_cases c1 : p0 ≥ 0
 ·
  replace H := ifT c1 H
  refine onl (decide_eq_true c1) [6, 7] [vI p0, vB (decide (p0 ≤ 1048576))] hr fun a hr => ?_
  refine opv (wn rfl) hr (vB (decide (p0 ≤ 1048576))) (rp_t (b := (decide (p0 ≥ 0))) rfl (by kernel_rfl) (decide_eq_true c1) (by kernel_rfl)) fun a hr => ?_
  refine o1 hr (vB (decide (p0 ≤ 1048576))) fun a hr => ?_
  refine ln ?_
  refine wp_ret ?_
  refine end_ret1 (v := vB (decide (p0 ≤ 1048576))) rfl hr (by kernel_rfl) ?_
  replace H := ej1 H; subst H
  exact ⟨rfl, h⟩
 ·
  replace H := ifF c1 H
  refine offl (decide_eq_false c1) [6, 7] hr fun a hr => ?_
  refine opv (wn rfl) hr (vB false) (rp_f (b := (decide (p0 ≥ 0))) rfl (by kernel_rfl) (decide_eq_false c1) (by kernel_rfl)) fun a hr => ?_
  refine o1 hr (vB false) fun a hr => ?_
  refine ln ?_
  refine wp_ret ?_
  refine end_ret1 (v := vB false) rfl hr (by kernel_rfl) ?_
  replace H := ej1 H; subst H
  exact ⟨rfl, h⟩

/-- plunder/cells.New -/
def cells_New (p0 : Int) : Option ((Option T_cells_Arena) × Int) :=
  ob1 (cells_good p0) (fun r1 => (if r1 = true then some (some (⟨p0, 0, ([] : List Int), ([] : List T_api_Access), 0, false⟩ : T_cells_Arena), 0) else some (none, 3)))

theorem cells_New_ok0 {z w : World} {L : List HProp} {p0 r1 : Int} {r0 : T_cells_Arena} (H : cells_New p0 = some ((some r0), r1)) (h : Fit z (sepL (L)) w)  :
    Calls Tryd.prog 5 #[vI p0] w fun e w => ∃ Bn0 car0_1 ccr0_2 car0_3 ccr0_4, e = .returned (.tuple #[pA Bn0 0, vI r1]) ∧ Fit z (sepL (ob102 Bn0 r0 car0_1 ccr0_2 car0_3 ccr0_4 :: ro2 car0_1 ccr0_2 r0.cell :: ro111 car0_3 ccr0_4 r0.log :: L)) w := by
 unfold cells_New at H
 refine enter Tryd.func5 rfl 11 rfl rfl [(0, vI p0)] ⟨rfl, trivial⟩ ?_
 intro j a hr
 refine sr ?_
 refine oo [2, 3] [pN, vI 0] hr fun a hr => ?_
 refine ln ?_
 refine wp_seq ?_
 refine sr ?_
 obtain ⟨r1, e2, H⟩ := bd1 H
 refine o1 hr (vI p0) fun a hr => ?_
 have hc := cells_good_ok (H := e2) (h := h)
 refine cl (wn rfl) hr hc ?_; clear hc h
 rintro _ w ⟨rfl, h⟩; refine ⟨_, rfl, fun a hr => ?_⟩
 refine o1 hr (vB (!r1)) fun a hr => ?_
 refine ln ?_
 refine cM hr H (fun c3 H => ?_) fun c3 H => ?_
 ·
  refine wp_skip ?_
  refine then_normal ?_
  refine sr ?_
  refine oo [7, 8, 9] [vI p0, .agg #[vI p0, vI 0], .agg #[vI p0, vI 0, .slice none 0 0, .slice none 0 0, vI 0, vB false]] hr fun a hr => ?_
  refine onew (wn rfl) hr h nb (#[vI p0, vI 0, .slice none 0 0, .slice none 0 0, vI 0, vB false]) 102 fun b4 w a h hr => ?_
  refine oo [2, 3] [pA b4 0, vI 0] hr fun a hr => ?_
  refine ln ?_
  refine wp_ret ?_
  refine end_ret2 (v := pA b4 0) (v' := vI 0) rfl hr (by kernel_rfl) (by kernel_rfl) ?_
  replace h := h.row_nil (e := 2) (sz := 1) (enc := encZ_i64)
  replace h := h.row_nil (e := 111) (sz := 6) (enc := enc_T_api_Access)
  cases H
  exact ⟨b4, none, 0, none, 0, rfl, h.se 3 [2, 1, 0]⟩
 ·
  refine sr ?_
  refine oo [2, 3] [pN, vI 3] hr fun a hr => ?_
  refine ln ?_
  refine wp_ret ?_
  refine then_ret ?_
  refine end_ret2 (v := pN) (v' := vI 3) rfl hr (by kernel_rfl) (by kernel_rfl) ?_
  cases H

theorem cells_New_ok1 {z w : World} {L : List HProp} {p0 r1 : Int} (H : cells_New p0 = some (none, r1)) (h : Fit z (sepL (L)) w)  :
    Calls Tryd.prog 5 #[vI p0] w fun e w => e = .returned (.tuple #[pN, vI r1]) ∧ Fit z (sepL (L)) w := by
 unfold cells_New at H
 refine enter Tryd.func5 rfl 11 rfl rfl [(0, vI p0)] ⟨rfl, trivial⟩ ?_
 intro j a hr
 refine sr ?_
 refine oo [2, 3] [pN, vI 0] hr fun a hr => ?_
 refine ln ?_
 refine wp_seq ?_
 refine sr ?_
 obtain ⟨r1, e2, H⟩ := bd1 H
 refine o1 hr (vI p0) fun a hr => ?_
 have hc := cells_good_ok (H := e2) (h := h)
 refine cl (wn rfl) hr hc ?_; clear hc h
 rintro _ w ⟨rfl, h⟩; refine ⟨_, rfl, fun a hr => ?_⟩
 refine o1 hr (vB (!r1)) fun a hr => ?_
 refine ln ?_
 refine cM hr H (fun c3 H => ?_) fun c3 H => ?_
 ·
  refine wp_skip ?_
  refine then_normal ?_
  refine sr ?_
  refine oo [7, 8, 9] [vI p0, .agg #[vI p0, vI 0], .agg #[vI p0, vI 0, .slice none 0 0, .slice none 0 0, vI 0, vB false]] hr fun a hr => ?_
  refine onew (wn rfl) hr h nb (#[vI p0, vI 0, .slice none 0 0, .slice none 0 0, vI 0, vB false]) 102 fun b4 w a h hr => ?_
  refine oo [2, 3] [pA b4 0, vI 0] hr fun a hr => ?_
  refine ln ?_
  refine wp_ret ?_
  refine end_ret2 (v := pA b4 0) (v' := vI 0) rfl hr (by kernel_rfl) (by kernel_rfl) ?_
  replace h := h.row_nil (e := 2) (sz := 1) (enc := encZ_i64)
  replace h := h.row_nil (e := 111) (sz := 6) (enc := enc_T_api_Access)
  cases H
 ·
  refine sr ?_
  refine oo [2, 3] [pN, vI 3] hr fun a hr => ?_
  refine ln ?_
  refine wp_ret ?_
  refine then_ret ?_
  refine end_ret2 (v := pN) (v' := vI 3) rfl hr (by kernel_rfl) (by kernel_rfl) ?_
  cases H
  exact ⟨rfl, h⟩

/-- (*plunder/cells.Arena).Watch -/
def cells_Arena_Watch (p0 : T_cells_Arena) (p1 : Bool) : Option (T_cells_Arena) :=
  some ({ p0 with watched := p1 })

theorem cells_Arena_Watch_ok {z w : World} {L : List HProp} {p0 q0 : T_cells_Arena} {p1 : Bool} {B0 cc2 cc4 : Nat} {ca1 ca3 : Option Addr} (H : cells_Arena_Watch p0 p1 = some q0) (h : Fit z (sepL (ob102 B0 p0 ca1 cc2 ca3 cc4 :: ro2 ca1 cc2 p0.cell :: ro111 ca3 cc4 p0.log :: L)) w)  :
    Calls Tryd.prog 8 #[pA B0 0, vB p1] w fun e w => ∃ caq0_1 ccq0_2 caq0_3 ccq0_4, e = .returned (.tuple #[]) ∧ Fit z (sepL (ob102 B0 q0 caq0_1 ccq0_2 caq0_3 ccq0_4 :: ro2 caq0_1 ccq0_2 q0.cell :: ro111 caq0_3 ccq0_4 q0.log :: L)) w := by
 unfold cells_Arena_Watch at H
 refine enter Tryd.func8 rfl 10 rfl rfl [(0, pA B0 0), (1, vB p1)] ⟨rfl, rfl, trivial⟩ ?_
 intro j a hr
 refine sr ?_
 refine oo [4, 5] [pA B0 0, vB true] hr fun a hr => ?_
 refine ln ?_
 refine cond_tt hr (b := true) rfl ?_
 refine wp_region_lit ?_
 refine oo [6, 7, 8, 9] [pA B0 0, vB p1, pA B0 0, pA B0 5] hr fun a hr => ?_
 refine st1 (wn rfl) hr h 5 (vB p1) (pts B0 (.cells #[vI p0.ledger_size, vI p0.ledger_mark, .slice ca1 p0.cell.length cc2, .slice ca3 p0.log.length cc4, vI p0.actor, vB p1] 102)) fun w h => ?_
 refine wpList_nil ?_
 refine end_norm0 rfl hr ?_
 replace H := ej1 H; subst H
 exact ⟨ca1, cc2, ca3, cc4, rfl, h⟩

/-- (*plunder/cells.Arena).Log -/
def cells_Arena_Log (p0 : T_cells_Arena) : Option ((List T_api_Access)) :=
  if 0 ≤ ((p0.log.length : Nat) : Int) ∧ ((p0.log.length : Nat) : Int) * 48 ≤ 140737488355328 then if p0.log.length = (List.replicate p0.log.length (⟨0, 0, 0, 0, 0, false⟩ : T_api_Access)).length then some p0.log else none else none

theorem cells_Arena_Log_ok {z w : World} {L : List HProp} {p0 : T_cells_Arena} {B0 cc2 cc4 : Nat} {ca1 ca3 : Option Addr} {r0 : List T_api_Access} (H : cells_Arena_Log p0 = some r0) (h : Fit z (sepL (ob102 B0 p0 ca1 cc2 ca3 cc4 :: ro2 ca1 cc2 p0.cell :: ro111 ca3 cc4 p0.log :: L)) w)  :
    Calls Tryd.prog 11 #[pA B0 0] w fun e w => ∃ car0_1, e = .returned (.slice car0_1 r0.length r0.length) ∧ Fit z (sepL (ob102 B0 p0 ca1 cc2 ca3 cc4 :: ro2 ca1 cc2 p0.cell :: ro111 ca3 cc4 p0.log :: ro111 car0_1 r0.length r0 :: L)) w := by
 unfold cells_Arena_Log at H
 refine enter Tryd.func11 rfl 19 rfl rfl [(0, pA B0 0)] ⟨rfl, trivial⟩ ?_
 intro j a hr
 refine sr ?_
 refine o1 hr (.slice none 0 0) fun a hr => ?_
 refine ln ?_
 refine wp_seq ?_
 refine sr ?_
 refine oo [4, 5] [pA B0 0, vB false] hr fun a hr => ?_
 refine ln ?_
 refine cond_ff hr (b := false) rfl ?_
 refine wp_skip ?_
 refine then_normal ?_
 refine sr ?_
 refine oo [6, 7, 8] [pA B0 0, pA B0 0, pA B0 3] hr fun a hr => ?_
 refine ld (wn rfl) hr (.slice ca3 p0.log.length cc4) (h.cell 3 rfl) fun a hr => ?_
 obtain ⟨c5, H⟩ := gd H
 refine o1 hr (vI ((p0.log.length : Nat) : Int)) fun a hr => ?_
 refine op_make_row (i := ((p0.log.length : Nat) : Int)) (bytes := 48) (zc := #[vI 0, vI 0, vI 0, vI 0, vI 0, vB false]) (⟨0, 0, 0, 0, 0, false⟩ : T_api_Access) (wn rfl) rfl rfl hr rfl (by kernel_rfl) (by kernel_rfl) c5 enc_T_api_Access_ok (E := 111) (by kernel_rfl) (by kernel_rfl) rfl rfl h fun ca6 w a h hr => ?_
 refine o1 hr (.slice ca6 (List.replicate p0.log.length (⟨0, 0, 0, 0, 0, false⟩ : T_api_Access)).length p0.log.length) fun a hr => ?_
 refine ln ?_
 refine sr ?_
 refine oo [12, 13, 14, 15] [.slice ca6 (List.replicate p0.log.length (⟨0, 0, 0, 0, 0, false⟩ : T_api_Access)).length p0.log.length, pA B0 0, pA B0 0, pA B0 3] hr fun a hr => ?_
 refine ld (wn rfl) hr (.slice ca3 p0.log.length cc4) ((h.pick 1).cell 3 rfl) fun a hr => ?_
 obtain ⟨c7, H⟩ := gd H
 replace h := h.m3.m1
 refine op_copy_row (wn rfl) rfl rfl hr rfl (by kernel_rfl) (by kernel_rfl) enc_T_api_Access_ok (E := 111) (by kernel_rfl) (by kernel_rfl) c7 h fun w a h hr => ?_
 refine ln ?_
 refine sr ?_
 refine oo [18, 2] [.slice ca6 (List.replicate p0.log.length (⟨0, 0, 0, 0, 0, false⟩ : T_api_Access)).length p0.log.length, .slice ca6 (List.replicate p0.log.length (⟨0, 0, 0, 0, 0, false⟩ : T_api_Access)).length p0.log.length] hr fun a hr => ?_
 refine ln ?_
 refine wp_ret ?_
 refine end_ret1 (v := .slice ca6 (List.replicate p0.log.length (⟨0, 0, 0, 0, 0, false⟩ : T_api_Access)).length p0.log.length) rfl hr (by kernel_rfl) ?_
 have hn7 : (List.replicate p0.log.length (⟨0, 0, 0, 0, 0, false⟩ : T_api_Access)).length = p0.log.length := h.row_n; replace h := Fit.ren0 hn7 (fun q_ => rowOf 111 6 enc_T_api_Access (.slice ca6 q_ p0.log.length) p0.log) h
 replace H := ej1 H; subst H
 exact ⟨ca6, (by first | rfl | simp only [hn7]), h.se 4 [2, 3, 1, 0]⟩

def plunderlaw11_sameLog_l1 (K : Nat) (p0 : List T_api_Access) (p1 : List T_api_Access) : Nat → Int → Option (Bool)
  | 0, _ => none
  | k1 + 1, g2 => (if g2 < ((p0.length : Nat) : Int) then if inr_ g2 p0.length then if inr_ g2 p1.length then (if at_ p0 g2.toNat = at_ p1 g2.toNat then (plunderlaw11_sameLog_l1 K p0 p1 k1 (wi (g2 + 1))) else some false) else none else none else some true)
/-- plunder/plunderlaw11.sameLog -/
def plunderlaw11_sameLog (K : Nat) (p0 : List T_api_Access) (p1 : List T_api_Access) : Option (Bool) :=
  (if ((p0.length : Nat) : Int) = ((p1.length : Nat) : Int) then (plunderlaw11_sameLog_l1 K p0 p1 K 0) else some false)

theorem plunderlaw11_sameLog_ok {z w : World} {L : List HProp} {K : Nat} {p0 p1 : List T_api_Access} {va0 va1 : Option Addr} {vc0 vc1 : Nat} {r0 : Bool} (H : plunderlaw11_sameLog K p0 p1 = some r0) (h : Fit z (sepL (L)) w) (hv0 : RdRow L 6 enc_T_api_Access va0 p0) (hv1 : RdRow L 6 enc_T_api_Access va1 p1) :
    Calls Tryd.prog 12 #[.slice va0 p0.length vc0, .slice va1 p1.length vc1] w fun e w => e = .returned (vB r0) ∧ Fit z (sepL (L)) w := by
 unfold plunderlaw11_sameLog at H
 refine enter Tryd.func12 rfl 26 rfl rfl [(0, .slice va0 p0.length vc0), (1, .slice va1 p1.length vc1)] ⟨rfl, rfl, trivial⟩ ?_
 intro j a hr
 refine sr ?_
 refine o1 hr (vB false) fun a hr => ?_
 refine ln ?_
 refine wp_seq ?_
 refine sr ?_
 refine oo [6, 7, 8, 9, 10] [.slice va0 p0.length vc0, vI ((p0.length : Nat) : Int), .slice va1 p1.length vc1, vI ((p1.length : Nat) : Int), vB (((p0.length : Nat) : Int) != ((p1.length : Nat) : Int))] hr fun a hr => ?_
 refine ln ?_
 refine cN hr H (fun c1 H => ?_) fun c1 H => ?_
 ·
  refine wp_skip ?_
  refine then_normal ?_
  refine wp_seq ?_
  refine sr ?_
  refine o1 hr (vI 0) fun a hr => ?_
  refine ln ?_
  refine wp_block ?_
  refine loop_rule (β := Nat) id (fun m a w => ∃ g2 : Int, (plunderlaw11_sameLog_l1 K p0 p1 m g2) = some r0 ∧ ∃ j, Rep 26 (lk [(0, .slice va0 p0.length vc0), (1, .slice va1 p1.length vc1), (5, vI g2)] j) a ∧ Fit z (sepL (L)) w) K ⟨0, H, hr.fj h⟩ ?_
  clear h hr a H; rintro k1 a w ⟨g2, H, j, hr, h⟩
  cases k1 with
  | zero => exact absurd H (by simp [plunderlaw11_sameLog_l1])
  | succ k1 =>
   rw [plunderlaw11_sameLog_l1] at H
   refine wp_seq ?_
   refine sr ?_
   refine oo [11, 12, 13, 14] [vI g2, .slice va0 p0.length vc0, vI ((p0.length : Nat) : Int), vB (decide (g2 < ((p0.length : Nat) : Int)))] hr fun a hr => ?_
   refine ln ?_
   refine cD hr H (fun c3 H => ?_) fun c3 H => ?_
   ·
    refine wp_skip ?_
    refine then_normal ?_
    refine wp_seq ?_
    refine wp_block ?_
    refine wp_seq ?_
    obtain ⟨c4, H⟩ := gd H
    obtain ⟨c5, H⟩ := gd H
    refine regL [(blk va0, offs va0 + g2.toNat * 6, cl_T_api_Access (at_ p0 g2.toNat)), (blk va1, offs va1 + g2.toNat * 6, cl_T_api_Access (at_ p1 g2.toNat))] [2, 6] 9 h (fun h => ⟨⟨hv0.cell c4 (h.dn 0) 0 rfl, hv0.cell c4 (h.dn 0) 1 rfl, hv0.cell c4 (h.dn 0) 2 rfl, hv0.cell c4 (h.dn 0) 3 rfl, hv0.cell c4 (h.dn 0) 4 rfl, hv0.cell c4 (h.dn 0) 5 rfl, trivial⟩, ⟨hv1.cell c5 (h.dn 0) 0 rfl, hv1.cell c5 (h.dn 0) 1 rfl, hv1.cell c5 (h.dn 0) 2 rfl, hv1.cell c5 (h.dn 0) 3 rfl, hv1.cell c5 (h.dn 0) 4 rfl, hv1.cell c5 (h.dn 0) 5 rfl, trivial⟩, trivial⟩) fun w h hd => ?_
    refine evs' hd 7 [(0, 17, .slice va0 p0.length vc0), (1, 18, vI g2)] hr fun a hr => ?_
    refine eon hd 6 2 rfl (wn rfl) hr (pA (blk va0) (offs va0 + g2.toNat * 6)) (hrun := fun w => ri_rd (k := .i64) (E := 111) (cc := vc0) rfl (by kernel_rfl) (by kernel_rfl) rfl (by kernel_rfl) (by kernel_rfl) hv0 c4) fun a hr => ?_
    refine evs' hd 4 [(4, 21, .slice va1 p1.length vc1), (5, 22, vI g2)] hr fun a hr => ?_
    refine eon hd 3 6 rfl (wn rfl) hr (pA (blk va1) (offs va1 + g2.toNat * 6)) (hrun := fun w => ri_rd (k := .i64) (E := 111) (cc := vc1) rfl (by kernel_rfl) (by kernel_rfl) rfl (by kernel_rfl) (by kernel_rfl) hv1 c5) fun a hr => ?_
    refine elm hd 0 2 3 hr (wn rfl) rfl rfl fun a hr => ?_
    refine elm hd 1 1 7 hr (wn rfl) rfl rfl fun a hr => ?_
    refine eon hd 0 8 rfl (wn rfl) hr (vB (!(decide (at_ p0 g2.toNat = at_ p1 g2.toNat)))) (hrun := fun w => rb (rne rfl (by kernel_rfl) (by kernel_rfl) (by kernel_rfl) (by kernel_rfl) (by kernel_rfl) (by kernel_rfl)) (congrArg (!·) (eq_T_api_Access (at_ p0 g2.toNat) (at_ p1 g2.toNat)))) fun a hr => ?_
    refine een ?_
    refine then_normal ?_
    refine cN hr H (fun c6 H => ?_) fun c6 H => ?_
    ·
     refine wp_skip ?_
     refine blk_normal ?_
     refine then_normal ?_
     refine wp_region_lit ?_
     refine oo [15, 16, 5] [vI g2, vI (wi (g2 + 1)), vI (wi (g2 + 1))] hr fun a hr => ?_
     refine ln ?_
     exact ⟨_, ⟨(wi (g2 + 1)), H, hr.fj h⟩, Nat.lt_succ_self _⟩
    ·
     refine sr ?_
     refine o1 hr (vB false) fun a hr => ?_
     refine ln ?_
     refine wp_ret ?_
     refine blk_ret ?_
     refine then_ret ?_
     refine then_ret ?_
     refine blk_ret ?_
     refine then_ret ?_
     refine end_ret1 (v := vB false) rfl hr (by kernel_rfl) ?_
     replace H := ej1 H; subst H
     exact ⟨rfl, h⟩
   ·
    refine wp_exit ?_
    refine then_exit ?_
    refine then_exit ?_
    refine blk_here ?_
    refine then_normal ?_
    refine sr ?_
    refine o1 hr (vB true) fun a hr => ?_
    refine ln ?_
    refine wp_ret ?_
    refine end_ret1 (v := vB true) rfl hr (by kernel_rfl) ?_
    replace H := ej1 H; subst H
    exact ⟨rfl, h⟩
 ·
  refine sr ?_
  refine o1 hr (vB false) fun a hr => ?_
  refine ln ?_
  refine wp_ret ?_
  refine then_ret ?_
  refine end_ret1 (v := vB false) rfl hr (by kernel_rfl) ?_
  replace H := ej1 H; subst H
  exact ⟨rfl, h⟩

/-- (*plunder/cells.Arena).Cells -/
def cells_Arena_Cells (p0 : T_cells_Arena) : Option ((List Int)) :=
  if 0 ≤ ((p0.cell.length : Nat) : Int) ∧ ((p0.cell.length : Nat) : Int) * 8 ≤ 140737488355328 then if p0.cell.length = (List.replicate p0.cell.length (0 : Int)).length then some p0.cell else none else none

theorem cells_Arena_Cells_ok {z w : World} {L : List HProp} {p0 : T_cells_Arena} {B0 cc2 cc4 : Nat} {ca1 ca3 : Option Addr} {r0 : List Int} (H : cells_Arena_Cells p0 = some r0) (h : Fit z (sepL (ob102 B0 p0 ca1 cc2 ca3 cc4 :: ro2 ca1 cc2 p0.cell :: ro111 ca3 cc4 p0.log :: L)) w)  :
    Calls Tryd.prog 16 #[pA B0 0] w fun e w => ∃ car0_1, e = .returned (.slice car0_1 r0.length r0.length) ∧ Fit z (sepL (ob102 B0 p0 ca1 cc2 ca3 cc4 :: ro2 ca1 cc2 p0.cell :: ro111 ca3 cc4 p0.log :: ro2 car0_1 r0.length r0 :: L)) w := by
 unfold cells_Arena_Cells at H
 refine enter Tryd.func16 rfl 19 rfl rfl [(0, pA B0 0)] ⟨rfl, trivial⟩ ?_
 intro j a hr
 refine sr ?_
 refine o1 hr (.slice none 0 0) fun a hr => ?_
 refine ln ?_
 refine wp_seq ?_
 refine sr ?_
 refine oo [4, 5] [pA B0 0, vB false] hr fun a hr => ?_
 refine ln ?_
 refine cond_ff hr (b := false) rfl ?_
 refine wp_skip ?_
 refine then_normal ?_
 refine sr ?_
 refine oo [6, 7, 8] [pA B0 0, pA B0 0, pA B0 2] hr fun a hr => ?_
 refine ld (wn rfl) hr (.slice ca1 p0.cell.length cc2) (h.cell 2 rfl) fun a hr => ?_
 obtain ⟨c5, H⟩ := gd H
 refine o1 hr (vI ((p0.cell.length : Nat) : Int)) fun a hr => ?_
 refine op_make_row (i := ((p0.cell.length : Nat) : Int)) (bytes := 8) (zc := #[vI 0]) (0 : Int) (wn rfl) rfl rfl hr rfl (by kernel_rfl) (by kernel_rfl) c5 encZ_i64_ok (E := 2) (by kernel_rfl) (by kernel_rfl) rfl rfl h fun ca6 w a h hr => ?_
 refine o1 hr (.slice ca6 (List.replicate p0.cell.length (0 : Int)).length p0.cell.length) fun a hr => ?_
 refine ln ?_
 refine sr ?_
 refine oo [12, 13, 14, 15] [.slice ca6 (List.replicate p0.cell.length (0 : Int)).length p0.cell.length, pA B0 0, pA B0 0, pA B0 2] hr fun a hr => ?_
 refine ld (wn rfl) hr (.slice ca1 p0.cell.length cc2) ((h.pick 1).cell 2 rfl) fun a hr => ?_
 obtain ⟨c7, H⟩ := gd H
 replace h := h.m2.m1
 refine op_copy_row (wn rfl) rfl rfl hr rfl (by kernel_rfl) (by kernel_rfl) encZ_i64_ok (E := 2) (by kernel_rfl) (by kernel_rfl) c7 h fun w a h hr => ?_
 refine ln ?_
 refine sr ?_
 refine oo [18, 2] [.slice ca6 (List.replicate p0.cell.length (0 : Int)).length p0.cell.length, .slice ca6 (List.replicate p0.cell.length (0 : Int)).length p0.cell.length] hr fun a hr => ?_
 refine ln ?_
 refine wp_ret ?_
 refine end_ret1 (v := .slice ca6 (List.replicate p0.cell.length (0 : Int)).length p0.cell.length) rfl hr (by kernel_rfl) ?_
 have hn7 : (List.replicate p0.cell.length (0 : Int)).length = p0.cell.length := h.row_n; replace h := Fit.ren0 hn7 (fun q_ => rowOf 2 1 encZ_i64 (.slice ca6 q_ p0.cell.length) p0.cell) h
 replace H := ej1 H; subst H
 exact ⟨ca6, (by first | rfl | simp only [hn7]), h.se 4 [2, 1, 3, 0]⟩

def plunderlaw11_sameCells_l1 (K : Nat) (p0 : List Int) (p1 : List Int) : Nat → Int → Option (Bool)
  | 0, _ => none
  | k1 + 1, g2 => (if g2 < ((p0.length : Nat) : Int) then if inr_ g2 p0.length then if inr_ g2 p1.length then (if (at_ p0 g2.toNat) = (at_ p1 g2.toNat) then (plunderlaw11_sameCells_l1 K p0 p1 k1 (wi (g2 + 1))) else some false) else none else none else some true)
/-- plunder/plunderlaw11.sameCells -/
def plunderlaw11_sameCells (K : Nat) (p0 : List Int) (p1 : List Int) : Option (Bool) :=
  (if ((p0.length : Nat) : Int) = ((p1.length : Nat) : Int) then (plunderlaw11_sameCells_l1 K p0 p1 K 0) else some false)

theorem plunderlaw11_sameCells_ok {z w : World} {L : List HProp} {K : Nat} {p0 p1 : List Int} {va0 va1 : Option Addr} {vc0 vc1 : Nat} {r0 : Bool} (H : plunderlaw11_sameCells K p0 p1 = some r0) (h : Fit z (sepL (L)) w) (hv0 : RdRow L 1 encZ_i64 va0 p0) (hv1 : RdRow L 1 encZ_i64 va1 p1) :
    Calls Tryd.prog 15 #[.slice va0 p0.length vc0, .slice va1 p1.length vc1] w fun e w => e = .returned (vB r0) ∧ Fit z (sepL (L)) w := by
 unfold plunderlaw11_sameCells at H
 refine enter Tryd.func15 rfl 26 rfl rfl [(0, .slice va0 p0.length vc0), (1, .slice va1 p1.length vc1)] ⟨rfl, rfl, trivial⟩ ?_
 intro j a hr
 refine sr ?_
 refine o1 hr (vB false) fun a hr => ?_
 refine ln ?_
 refine wp_seq ?_
 refine sr ?_
 refine oo [6, 7, 8, 9, 10] [.slice va0 p0.length vc0, vI ((p0.length : Nat) : Int), .slice va1 p1.length vc1, vI ((p1.length : Nat) : Int), vB (((p0.length : Nat) : Int) != ((p1.length : Nat) : Int))] hr fun a hr => ?_
 refine ln ?_
 refine cN hr H (fun c1 H => ?_) fun c1 H => ?_
 ·
  refine wp_skip ?_
  refine then_normal ?_
  refine wp_seq ?_
  refine sr ?_
  refine o1 hr (vI 0) fun a hr => ?_
  refine ln ?_
  refine wp_block ?_
  refine loop_rule (β := Nat) id (fun m a w => ∃ g2 : Int, (plunderlaw11_sameCells_l1 K p0 p1 m g2) = some r0 ∧ ∃ j, Rep 26 (lk [(0, .slice va0 p0.length vc0), (1, .slice va1 p1.length vc1), (5, vI g2)] j) a ∧ Fit z (sepL (L)) w) K ⟨0, H, hr.fj h⟩ ?_
  clear h hr a H; rintro k1 a w ⟨g2, H, j, hr, h⟩
  cases k1 with
  | zero => exact absurd H (by simp [plunderlaw11_sameCells_l1])
  | succ k1 =>
   rw [plunderlaw11_sameCells_l1] at H
   refine wp_seq ?_
   refine sr ?_
   refine oo [11, 12, 13, 14] [vI g2, .slice va0 p0.length vc0, vI ((p0.length : Nat) : Int), vB (decide (g2 < ((p0.length : Nat) : Int)))] hr fun a hr => ?_
   refine ln ?_
   refine cD hr H (fun c3 H => ?_) fun c3 H => ?_
   ·
    refine wp_skip ?_
    refine then_normal ?_
    refine wp_seq ?_
    refine wp_block ?_
    refine wp_seq ?_
    obtain ⟨c4, H⟩ := gd H
    obtain ⟨c5, H⟩ := gd H
    refine regL [(blk va0, offs va0 + g2.toNat * 1, [vI (at_ p0 g2.toNat)]), (blk va1, offs va1 + g2.toNat * 1, [vI (at_ p1 g2.toNat)])] [2, 6] 9 h (fun h => ⟨⟨hv0.cell c4 (h.dn 0) 0 rfl, trivial⟩, ⟨hv1.cell c5 (h.dn 0) 0 rfl, trivial⟩, trivial⟩) fun w h hd => ?_
    refine evs' hd 7 [(0, 17, .slice va0 p0.length vc0), (1, 18, vI g2)] hr fun a hr => ?_
    refine eon hd 6 2 rfl (wn rfl) hr (pA (blk va0) (offs va0 + g2.toNat * 1)) (hrun := fun w => ri_rd (k := .i64) (E := 2) (cc := vc0) rfl (by kernel_rfl) (by kernel_rfl) rfl (by kernel_rfl) (by kernel_rfl) hv0 c4) fun a hr => ?_
    refine evs' hd 4 [(4, 21, .slice va1 p1.length vc1), (5, 22, vI g2)] hr fun a hr => ?_
    refine eon hd 3 6 rfl (wn rfl) hr (pA (blk va1) (offs va1 + g2.toNat * 1)) (hrun := fun w => ri_rd (k := .i64) (E := 2) (cc := vc1) rfl (by kernel_rfl) (by kernel_rfl) rfl (by kernel_rfl) (by kernel_rfl) hv1 c5) fun a hr => ?_
    refine elx hd 0 2 3 hr (wn rfl) rfl rfl fun a hr => ?_
    refine elx hd 1 1 7 hr (wn rfl) rfl rfl fun a hr => ?_
    refine evs' hd 0 [(8, 25, vB ((at_ p0 g2.toNat) != (at_ p1 g2.toNat)))] hr fun a hr => ?_
    refine een ?_
    refine then_normal ?_
    refine cN hr H (fun c6 H => ?_) fun c6 H => ?_
    ·
     refine wp_skip ?_
     refine blk_normal ?_
     refine then_normal ?_
     refine wp_region_lit ?_
     refine oo [15, 16, 5] [vI g2, vI (wi (g2 + 1)), vI (wi (g2 + 1))] hr fun a hr => ?_
     refine ln ?_
     exact ⟨_, ⟨(wi (g2 + 1)), H, hr.fj h⟩, Nat.lt_succ_self _⟩
    ·
     refine sr ?_
     refine o1 hr (vB false) fun a hr => ?_
     refine ln ?_
     refine wp_ret ?_
     refine blk_ret ?_
     refine then_ret ?_
     refine then_ret ?_
     refine blk_ret ?_
     refine then_ret ?_
     refine end_ret1 (v := vB false) rfl hr (by kernel_rfl) ?_
     replace H := ej1 H; subst H
     exact ⟨rfl, h⟩
   ·
    refine wp_exit ?_
    refine then_exit ?_
    refine then_exit ?_
    refine blk_here ?_
    refine then_normal ?_
    refine sr ?_
    refine o1 hr (vB true) fun a hr => ?_
    refine ln ?_
    refine wp_ret ?_
    refine end_ret1 (v := vB true) rfl hr (by kernel_rfl) ?_
    replace H := ej1 H; subst H
    exact ⟨rfl, h⟩
 ·
  refine sr ?_
  refine o1 hr (vB false) fun a hr => ?_
  refine ln ?_
  refine wp_ret ?_
  refine then_ret ?_
  refine end_ret1 (v := vB false) rfl hr (by kernel_rfl) ?_
  replace H := ej1 H; subst H
  exact ⟨rfl, h⟩

/-- (*plunder/worker.World).Result -/
def worker_World_Result (p0 : T_worker_World) (p0_m : T_cells_Arena) : Option (Int × Bool) :=
  some (p0.value, p0.left)

theorem worker_World_Result_ok {z w : World} {L : List HProp} {p0 : T_worker_World} {p0_m : T_cells_Arena} {B0 B0_m cc2 cc4 cc6 cc8 cc10 cc12 : Nat} {ca1 ca3 ca5 ca7 ca9 ca11 : Option Addr} {r0 : Int} {r1 : Bool} (H : worker_World_Result p0 p0_m = some (r0, r1)) (h : Fit z (sepL (ob73 B0 p0 (.iface 37 (pA B0_m 0)) ca5 cc6 ca7 cc8 ca9 cc10 ca11 cc12 :: rn76 ca5 cc6 p0.code :: ro84 ca7 cc8 p0.deques :: ro80 ca9 cc10 p0.tasks :: ro97 B0 ca11 cc12 p0.workers :: ob102 B0_m p0_m ca1 cc2 ca3 cc4 :: ro2 ca1 cc2 p0_m.cell :: ro111 ca3 cc4 p0_m.log :: L)) w)  :
    Calls Tryd.prog 17 #[pA B0 0] w fun e w => e = .returned (.tuple #[vI r0, vB r1]) ∧ Fit z (sepL (ob73 B0 p0 (.iface 37 (pA B0_m 0)) ca5 cc6 ca7 cc8 ca9 cc10 ca11 cc12 :: rn76 ca5 cc6 p0.code :: ro84 ca7 cc8 p0.deques :: ro80 ca9 cc10 p0.tasks :: ro97 B0 ca11 cc12 p0.workers :: ob102 B0_m p0_m ca1 cc2 ca3 cc4 :: ro2 ca1 cc2 p0_m.cell :: ro111 ca3 cc4 p0_m.log :: L)) w := by
 unfold worker_World_Result at H
 refine enter Tryd.func17 rfl 14 rfl rfl [(0, pA B0 0)] ⟨rfl, trivial⟩ ?_
 intro j a hr
 refine sr ?_
 refine oo [2, 3] [vI 0, vB false] hr fun a hr => ?_
 refine ln ?_
 refine wp_seq ?_
 refine sr ?_
 refine oo [4, 5] [pA B0 0, vB false] hr fun a hr => ?_
 refine ln ?_
 refine cond_ff hr (b := false) rfl ?_
 refine wp_skip ?_
 refine then_normal ?_
 refine wp_seq ?_
 refine regL [(B0, 10, [vI p0.value]), (B0, 11, [vB p0.left])] [1, 2, 5, 6] 10 h (fun h => ⟨⟨h.cell 10 rfl, trivial⟩, ⟨h.cell 11 rfl, trivial⟩, trivial⟩) fun w h hd => ?_
 refine evs' hd 4 [(0, 6, pA B0 0), (1, 7, pA B0 0), (2, 8, pA B0 10), (4, 10, pA B0 0), (5, 11, pA B0 0), (6, 12, pA B0 11)] hr fun a hr => ?_
 refine elx hd 0 3 3 hr (wn rfl) rfl rfl fun a hr => ?_
 refine evs' hd 2 [(8, 2, vI p0.value)] hr fun a hr => ?_
 refine elx hd 1 1 7 hr (wn rfl) rfl rfl fun a hr => ?_
 refine evs' hd 0 [(9, 3, vB p0.left)] hr fun a hr => ?_
 refine een ?_
 refine then_normal ?_
 refine wp_ret ?_
 refine end_ret2 (v := vI p0.value) (v' := vB p0.left) rfl hr (by kernel_rfl) (by kernel_rfl) ?_
 obtain ⟨rfl, rfl⟩ := ej2 H
 exact ⟨rfl, h⟩

/-- (*plunder/worker.World).Halted -/
def worker_World_Halted (p0 : T_worker_World) (p0_m : T_cells_Arena) (p1 : Int) : Option (Bool) :=
  (if p1 ≥ 0 then (if p1 < ((p0.workers.length : Nat) : Int) then if inr_ p1 p0.workers.length then some ((at_ p0.workers p1.toNat).about == 13) else none else some false) else some false)

theorem worker_World_Halted_ok {z w : World} {L : List HProp} {p0 : T_worker_World} {p0_m : T_cells_Arena} {p1 : Int} {B0 B0_m cc2 cc4 cc6 cc8 cc10 cc12 : Nat} {ca1 ca3 ca5 ca7 ca9 ca11 : Option Addr} {r0 : Bool} (H : worker_World_Halted p0 p0_m p1 = some r0) (h : Fit z (sepL (ob73 B0 p0 (.iface 37 (pA B0_m 0)) ca5 cc6 ca7 cc8 ca9 cc10 ca11 cc12 :: rn76 ca5 cc6 p0.code :: ro84 ca7 cc8 p0.deques :: ro80 ca9 cc10 p0.tasks :: ro97 B0 ca11 cc12 p0.workers :: ob102 B0_m p0_m ca1 cc2 ca3 cc4 :: ro2 ca1 cc2 p0_m.cell :: ro111 ca3 cc4 p0_m.log :: L)) w)  :
    Calls Tryd.prog 18 #[pA B0 0, vI p1] w fun e w => e = .returned (vB r0) ∧ Fit z (sepL (ob73 B0 p0 (.iface 37 (pA B0_m 0)) ca5 cc6 ca7 cc8 ca9 cc10 ca11 cc12 :: rn76 ca5 cc6 p0.code :: ro84 ca7 cc8 p0.deques :: ro80 ca9 cc10 p0.tasks :: ro97 B0 ca11 cc12 p0.workers :: ob102 B0_m p0_m ca1 cc2 ca3 cc4 :: ro2 ca1 cc2 p0_m.cell :: ro111 ca3 cc4 p0_m.log :: L)) w := by
 unfold worker_World_Halted at H
 refine enter Tryd.func18 rfl 31 rfl rfl [(0, pA B0 0), (1, vI p1)] ⟨rfl, rfl, trivial⟩ ?_
 intro j a hr
 refine sr ?_
 refine o1 hr (vB false) fun a hr => ?_
 refine ln ?_
 refine sr ?_
 refine oo [5, 6, 7] [pA B0 0, vB true, vB true] hr fun a hr => ?_
 refine onl (rfl : true = true) [8, 9] [vI p1, vB (decide (p1 ≥ 0))] hr fun a hr => ?_
 refine oo [10, 11] [vB (decide (p1 ≥ 0)), vB (decide (p1 ≥ 0))] hr fun a hr => ?_
 by_cases c13 : p1 ≥ 0
 ·
  replace H := ifT c13 H
  refine onl (decide_eq_true c13) [12, 13, 14, 15] [vI p1, pA B0 0, pA B0 0, pA B0 9] hr fun a hr => ?_
  refine ld (wgt hr (decide_eq_true c13)) hr (.slice ca11 p0.workers.length cc12) (h.cell 9 rfl) fun a hr => ?_
  refine onl (decide_eq_true c13) [17, 18] [vI ((p0.workers.length : Nat) : Int), vB (decide (p1 < ((p0.workers.length : Nat) : Int)))] hr fun a hr => ?_
  refine opv (wn rfl) hr (vB (decide (p1 < ((p0.workers.length : Nat) : Int)))) (rp_t (b := (decide (p1 ≥ 0))) rfl (by kernel_rfl) (decide_eq_true c13) (by kernel_rfl)) fun a hr => ?_
  refine o1 hr (vB (decide (p1 < ((p0.workers.length : Nat) : Int)))) fun a hr => ?_
  by_cases c14 : p1 < ((p0.workers.length : Nat) : Int)
  ·
   replace H := ifT c14 H
   refine onl (decide_eq_true c14) [21, 22, 23] [pA B0 0, pA B0 0, pA B0 9] hr fun a hr => ?_
   refine ld (wgt hr (decide_eq_true c14)) hr (.slice ca11 p0.workers.length cc12) (h.cell 9 rfl) fun a hr => ?_
   obtain ⟨c15, H⟩ := gd H
   refine onl (decide_eq_true c14) [25] [vI p1] hr fun a hr => ?_
   refine opv (wgt hr (decide_eq_true c14)) hr (pA (blk ca11) (p1.toNat * 188)) (ri_row (k := .i64) (E := 97) rfl (by kernel_rfl) (by kernel_rfl) (by kernel_rfl) (by kernel_rfl) (h.pick 4) c15) fun a hr => ?_
   refine onl (decide_eq_true c14) [27] [pA (blk ca11) (p1.toNat * 188 + 2)] hr fun a hr => ?_
   refine ld (wgt hr (decide_eq_true c14)) hr (vI (at_ p0.workers p1.toNat).about) ((h.pick 4).row_cell (enc_T_worker_actor_ok B0) (f := 2) (at_ok c15) rfl) fun a hr => ?_
   refine onl (decide_eq_true c14) [29] [vB ((at_ p0.workers p1.toNat).about == 13)] hr fun a hr => ?_
   refine opv (wn rfl) hr (vB ((at_ p0.workers p1.toNat).about == 13)) (rp_t (b := (decide (p1 < ((p0.workers.length : Nat) : Int)))) rfl (by kernel_rfl) (decide_eq_true c14) (by kernel_rfl)) fun a hr => ?_
   refine o1 hr (vB ((at_ p0.workers p1.toNat).about == 13)) fun a hr => ?_
   refine ln ?_
   refine wp_ret ?_
   refine end_ret1 (v := vB ((at_ p0.workers p1.toNat).about == 13)) rfl hr (by kernel_rfl) ?_
   replace H := ej1 H; subst H
   exact ⟨rfl, h⟩
  ·
   replace H := ifF c14 H
   refine offl (decide_eq_false c14) [21, 22, 23, 24, 25, 26, 27, 28, 29] hr fun a hr => ?_
   refine opv (wn rfl) hr (vB false) (rp_f (b := (decide (p1 < ((p0.workers.length : Nat) : Int)))) rfl (by kernel_rfl) (decide_eq_false c14) (by kernel_rfl)) fun a hr => ?_
   refine o1 hr (vB false) fun a hr => ?_
   refine ln ?_
   refine wp_ret ?_
   refine end_ret1 (v := vB false) rfl hr (by kernel_rfl) ?_
   replace H := ej1 H; subst H
   exact ⟨rfl, h⟩
 ·
  replace H := ifF c13 H
  refine offl (decide_eq_false c13) [12, 13, 14, 15, 16, 17, 18] hr fun a hr => ?_
  refine opv (wn rfl) hr (vB false) (rp_f (b := (decide (p1 ≥ 0))) rfl (by kernel_rfl) (decide_eq_false c13) (by kernel_rfl)) fun a hr => ?_
  refine o1 hr (vB false) fun a hr => ?_
  refine offl (rfl : false = false) [21, 22, 23, 24, 25, 26, 27, 28, 29] hr fun a hr => ?_
  refine oo [30, 4] [vB false, vB false] hr fun a hr => ?_
  refine ln ?_
  refine wp_ret ?_
  refine end_ret1 (v := vB false) rfl hr (by kernel_rfl) ?_
  replace H := ej1 H; subst H
  exact ⟨rfl, h⟩

/-- (*plunder/worker.World).Holds -/
def worker_World_Holds (p0 : T_worker_World) (p0_m : T_cells_Arena) (p1 : Int) : Option (Int) :=
  (if p1 < 0 then some (-1) else (if p1 ≥ ((p0.workers.length : Nat) : Int) then some (-1) else if inr_ p1 p0.workers.length then some (at_ p0.workers p1.toNat).frame else none))


end
end Go.Proofs.YtpikpffbcjpmcaaDoor.Mo
