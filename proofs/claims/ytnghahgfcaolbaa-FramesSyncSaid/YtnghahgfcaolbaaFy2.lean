/- what the functions compute, as plain Lean functions, and that they do -/
import Derived.Test.YtnghahgfcaolbaaFy1
namespace Go.Proofs.Ytnghahgfcaolbaa.Mo
open Go Go.RowKit Go.Proofs.Ytnghahgfcaolbaa.SL Go.Proofs.Ytnghahgfcaolbaa.GX
set_option linter.unusedVariables false
set_option linter.unusedSimpArgs false

set_option maxRecDepth 100000 in
set_option maxHeartbeats 4000000 in
theorem frames_Op_start_iface_ok {z w : World} {L : List HProp} {p0 : T_frames_Op} {p1 : T_cells_Arena} {B0 : Nat} {B1 : Nat} {ca1 : Option Addr} {cc2 : Nat} {ca3 : Option Addr} {cc4 : Nat} {r0 : Int} {q0 : T_frames_Op} {q1 : T_cells_Arena} (H : frames_Op_start_iface p0 p1 = some (r0, q0, q1)) (h : Fit z (sepL (ob50 B0 p0 :: ob103 B1 p1 ca1 cc2 ca3 cc4 :: ro2 ca1 cc2 p1.cell :: ro96 ca3 cc4 p1.log :: L)) w)  :
    Calls Try.prog 85 #[pA B0 0, .iface 26 (pA B1 0)] w fun e w => ∃ caq1_1 : Option Addr, ∃ ccq1_2 : Nat, ∃ caq1_3 : Option Addr, ∃ ccq1_4 : Nat, e = .returned (vI r0) ∧ Fit z (sepL (ob50 B0 q0 :: ob103 B1 q1 caq1_1 ccq1_2 caq1_3 ccq1_4 :: ro2 caq1_1 ccq1_2 q1.cell :: ro96 caq1_3 ccq1_4 q1.log :: L)) w := by
 unfold frames_Op_start_iface at H
 refine enter Try.func85 rfl 34 rfl rfl [(0, pA B0 0), (1, .iface 26 (pA B1 0))] ⟨rfl, rfl, trivial⟩ ?_
 intro j a hr
 refine sr ?_
 refine o1 hr (vI 0) fun a hr => ?_
 refine ln ?_
 refine wp_seq ?_
 obtain ⟨r5, e6, H⟩ := bd1 H
 obtain ⟨r7, r8, S9, e10, H⟩ := bd3 H
 refine reg_E (fun w => heldC w B0 0 ([vI p0.head_t_Base, vI p0.head_t_Frames]) ∧ heldC w B0 2 ([vI p0.head_frame]) ∧ True) [2, 3, 4, 7, 8, 9, 11, 12, 13] h (by kernel_rfl) ?_; intro w h
 change wpAnyE _ _ _ _ _ _ 21 (Array.replicate 21 false) a w
 have hgo : ∀ w w', CellsGo w w' → (heldC w B0 0 ([vI p0.head_t_Base, vI p0.head_t_Frames]) ∧ heldC w B0 2 ([vI p0.head_frame]) ∧ True) → heldC w' B0 0 ([vI p0.head_t_Base, vI p0.head_t_Frames]) ∧ heldC w' B0 2 ([vI p0.head_frame]) ∧ True := fun w w' g hD => ⟨heldC_go _ _ _ _ _ g hD.1, heldC_go _ _ _ _ _ g hD.2.1, trivial⟩
 refine evs 20 0 rfl (wn rfl) hr (.iface 26 (pA B1 0)) fun a hr => ?_
 refine evs 19 1 rfl (wn rfl) hr (pA B0 0) fun a hr => ?_
 refine evDs hgo ⟨(h.held 0 rfl), ⟨h.cell 2 rfl, trivial⟩, trivial⟩ 18 2 rfl (wn rfl) hr (pA B0 0) fun a hr => ?_
 refine evDs hgo ⟨(h.held 0 rfl), ⟨h.cell 2 rfl, trivial⟩, trivial⟩ 17 3 rfl (wn rfl) hr (pA B0 0) fun a hr => ?_
 refine evDs hgo ⟨(h.held 0 rfl), ⟨h.cell 2 rfl, trivial⟩, trivial⟩ 16 4 rfl (wn rfl) hr (pA B0 0) fun a hr => ?_
 refine evs 15 6 rfl (wn rfl) hr (pA B0 0) fun a hr => ?_
 refine evDs hgo ⟨(h.held 0 rfl), ⟨h.cell 2 rfl, trivial⟩, trivial⟩ 14 7 rfl (wn rfl) hr (pA B0 0) fun a hr => ?_
 refine evDs hgo ⟨(h.held 0 rfl), ⟨h.cell 2 rfl, trivial⟩, trivial⟩ 13 8 rfl (wn rfl) hr (pA B0 0) fun a hr => ?_
 refine evDs hgo ⟨(h.held 0 rfl), ⟨h.cell 2 rfl, trivial⟩, trivial⟩ 12 9 rfl (wn rfl) hr (pA B0 2) fun a hr => ?_
 refine evDs hgo ⟨(h.held 0 rfl), ⟨h.cell 2 rfl, trivial⟩, trivial⟩ 11 12 rfl (wn rfl) hr (.func (.method "Add") #[.iface 26 (pA B1 0)] #[]) fun a hr => ?_
 refine evDs hgo ⟨(h.held 0 rfl), ⟨h.cell 2 rfl, trivial⟩, trivial⟩ 10 13 rfl (wn rfl) hr (.func (.method "Add") #[.iface 26 (pA B1 0)] #[]) fun a hr => ?_
 refine evs 9 14 rfl (wn rfl) hr (.iface 26 (pA B1 0)) fun a hr => ?_
 refine el [2, 3, 4, 7, 8, 9, 11, 12, 13] (b := B0) (off := 0) (cs := [vI p0.head_t_Base, vI p0.head_t_Frames]) (fun _ hk => ⟨hk, fun w hD => hD.1⟩) 8 5 rfl (by kernel_rfl) (wn rfl) hr (.agg #[vI p0.head_t_Base, vI p0.head_t_Frames]) (h.held 0 rfl) (fun w hc => rlm (cs := [vI p0.head_t_Base, vI p0.head_t_Frames]) rfl (by kernel_rfl) (by kernel_rfl) (by kernel_rfl) hc) fun a hr => ?_
 refine el [2, 3, 4, 7, 8, 9, 11, 12, 13] (b := B0) (off := 2) (cs := [vI p0.head_frame]) (fun _ hk => ⟨hk, fun w hD => hD.2.1⟩) 7 10 rfl (by kernel_rfl) (wn rfl) hr (vI p0.head_frame) ⟨h.cell 2 rfl, trivial⟩ (fun w hc => rl rfl (by kernel_rfl) (by kernel_rfl) hc.1) fun a hr => ?_
 refine e_one (fuel := 6) (i := 11) (by kernel_rfl) rfl ?_
 have hc := frames_Table__mark_ok (H := e6) (h := h)
 refine cl (wn rfl) hr hc ?_; clear hc h
 rintro _ w ⟨rfl, h⟩; refine ⟨_, rfl, fun a hr => ?_⟩
 refine wpList_nil ?_; refine then_normal ?_
 refine ⟨fun _ => ⟨(h.held 0 rfl), ⟨h.cell 2 rfl, trivial⟩, trivial⟩, ?_⟩
 refine e_one (fuel := 5) (i := 15) (by kernel_rfl) rfl ?_
 replace h : Fit z (sepL (ob103 B1 p1 ca1 cc2 ca3 cc4 :: ro2 ca1 cc2 p1.cell :: ro96 ca3 cc4 p1.log :: ob50 B0 p0 :: L)) _ := h.sel 4 [1, 2, 3, 0] (by kernel_rfl) (by kernel_rfl)
 have hc := cells_Arena_Add_ok (H := e10) (h := h)
 refine cl (wn rfl) hr hc ?_; clear hc h
 rintro _ w ⟨caq11, ccq12, caq13, ccq14, rfl, h⟩; refine ⟨_, rfl, fun a hr => ?_⟩
 refine wpList_nil ?_; refine then_normal ?_
 refine ⟨fun hE => absurd hE (by decide), ?_⟩
 refine evs 4 16 rfl (wn rfl) hr (.tuple #[vI r7, vI r8]) fun a hr => ?_
 refine evs 3 17 rfl (wn rfl) hr (vI r7) fun a hr => ?_
 refine evs 2 18 rfl (wn rfl) hr (vI r8) fun a hr => ?_
 refine evs 1 19 rfl (wn rfl) hr (vI r7) fun a hr => ?_
 refine evs 0 20 rfl (wn rfl) hr (vI r8) fun a hr => ?_
 refine e_end (by kernel_rfl) ?_
 refine then_normal ?_
 refine wp_seq ?_
 refine sr ?_
 refine oo [26, 27] [vI r8, vB (r8 == 0)] hr fun a hr => ?_
 refine ln ?_
 by_cases c15 : r8 = 0
 ·
  replace H := ifT c15 H
  refine cond_tt hr (beq_iff_eq.mpr c15) ?_
  refine wp_region_lit ?_
  obtain ⟨S16, e17, H⟩ := bd1 H
  refine oo [28, 29, 30, 31] [pA B0 0, pA B0 0, pA B0 0, vI r7] hr fun a hr => ?_
  replace h : Fit z (sepL (ob50 B0 p0 :: ob103 B1 S9 caq11 ccq12 caq13 ccq14 :: ro2 caq11 ccq12 S9.cell :: ro96 caq13 ccq14 S9.log :: L)) _ := h.sel 4 [3, 0, 1, 2] (by kernel_rfl) (by kernel_rfl)
  have hc := frames_head_end_ok (H := e17) (h := h)
  refine cl (wn rfl) hr hc ?_; clear hc h
  rintro _ w ⟨rfl, h⟩; refine ⟨_, rfl, fun a hr => ?_⟩
  refine ln ?_
  refine sr ?_
  refine oo [33, 4] [vI r8, vI r8] hr fun a hr => ?_
  refine ln ?_
  refine wp_ret ?_
  refine end_ret1 (v := vI r8) rfl hr (by kernel_rfl) ?_
  obtain ⟨rfl, rfl, rfl⟩ := ej3 H
  exact ⟨caq11, ccq12, caq13, ccq14, rfl, h⟩
 ·
  replace H := ifF c15 H
  refine cond_ff hr (beq_eq_false_iff_ne.mpr c15) ?_
  refine wp_skip ?_
  refine then_normal ?_
  refine sr ?_
  refine oo [33, 4] [vI r8, vI r8] hr fun a hr => ?_
  refine ln ?_
  refine wp_ret ?_
  refine end_ret1 (v := vI r8) rfl hr (by kernel_rfl) ?_
  replace h : Fit z (sepL (ob50 B0 p0 :: ob103 B1 S9 caq11 ccq12 caq13 ccq14 :: ro2 caq11 ccq12 S9.cell :: ro96 caq13 ccq14 S9.log :: L)) _ := h.sel 4 [3, 0, 1, 2] (by kernel_rfl) (by kernel_rfl)
  obtain ⟨rfl, rfl, rfl⟩ := ej3 H
  exact ⟨caq11, ccq12, caq13, ccq14, rfl, h⟩

/-- (*plunder/cells.Arena).Load -/
def cells_Arena_Load (p0 : T_cells_Arena) (p1 : Int) : Option (Int × Int × T_cells_Arena) :=
  ob1 (cells_Arena_outside p0 p1) (fun r5 => (if r5 = true then some (0, 20, p0) else if inr_ p1 p0.cell.length then ob1 (cells_Arena_note p0 0 p1 (at_ p0.cell p1.toNat) 0 true) (fun S9 => some ((at_ p0.cell p1.toNat), 0, S9)) else none))

set_option maxRecDepth 100000 in
set_option maxHeartbeats 4000000 in
theorem cells_Arena_Load_ok {z w : World} {L : List HProp} {p0 : T_cells_Arena} {p1 : Int} {B0 : Nat} {ca1 : Option Addr} {cc2 : Nat} {ca3 : Option Addr} {cc4 : Nat} {r0 : Int} {r1 : Int} {q0 : T_cells_Arena} (H : cells_Arena_Load p0 p1 = some (r0, r1, q0)) (h : Fit z (sepL (ob103 B0 p0 ca1 cc2 ca3 cc4 :: ro2 ca1 cc2 p0.cell :: ro96 ca3 cc4 p0.log :: L)) w)  :
    Calls Try.prog 123 #[pA B0 0, vI p1] w fun e w => ∃ caq0_1 : Option Addr, ∃ ccq0_2 : Nat, ∃ caq0_3 : Option Addr, ∃ ccq0_4 : Nat, e = .returned (.tuple #[vI r0, vI r1]) ∧ Fit z (sepL (ob103 B0 q0 caq0_1 ccq0_2 caq0_3 ccq0_4 :: ro2 caq0_1 ccq0_2 q0.cell :: ro96 caq0_3 ccq0_4 q0.log :: L)) w := by
 unfold cells_Arena_Load at H
 refine enter Try.func123 rfl 22 rfl rfl [(0, pA B0 0), (1, vI p1)] ⟨rfl, rfl, trivial⟩ ?_
 intro j a hr
 refine sr ?_
 refine oo [4, 5] [vI 0, vI 0] hr fun a hr => ?_
 refine ln ?_
 refine wp_seq ?_
 refine sr ?_
 obtain ⟨r5, e6, H⟩ := bd1 H
 refine oo [7, 8] [pA B0 0, vI p1] hr fun a hr => ?_
 have hc := cells_Arena_outside_ok (H := e6) (h := h)
 refine cl (wn rfl) hr hc ?_; clear hc h
 rintro _ w ⟨rfl, h⟩; refine ⟨_, rfl, fun a hr => ?_⟩
 refine ln ?_
 by_cases c7 : r5 = true
 ·
  replace H := ifT c7 H
  refine cond_tt hr (c7) ?_
  refine sr ?_
  refine oo [4, 5] [vI 0, vI 20] hr fun a hr => ?_
  refine ln ?_
  refine wp_ret ?_
  refine then_ret ?_
  refine end_ret2 (v := vI 0) (v' := vI 20) rfl hr (by kernel_rfl) (by kernel_rfl) ?_
  obtain ⟨rfl, rfl, rfl⟩ := ej3 H
  exact ⟨ca1, cc2, ca3, cc4, rfl, h⟩
 ·
  replace H := ifF c7 H
  refine cond_ff hr (bF c7) ?_
  refine wp_skip ?_
  refine then_normal ?_
  refine sr ?_
  refine oo [10, 11, 12] [pA B0 0, pA B0 0, pA B0 2] hr fun a hr => ?_
  refine ld (wn rfl) hr (.slice ca1 p0.cell.length cc2) (h.cell 2 rfl) fun a hr => ?_
  obtain ⟨c8, H⟩ := gd H
  refine o1 hr (vI p1) fun a hr => ?_
  refine opv (wn rfl) hr (pA (blk ca1) (p1.toNat * 1)) (ri_row (k := .i64) (E := 2) rfl (by kernel_rfl) (by kernel_rfl) (by kernel_rfl) (by kernel_rfl) (h.pick 1) c8) fun a hr => ?_
  refine ld (wn rfl) hr (vI (at_ p0.cell p1.toNat)) ((h.pick 1).row_cell encZ_i64_ok (f := 0) (at_ok c8) rfl) fun a hr => ?_
  refine o1 hr (vI (at_ p0.cell p1.toNat)) fun a hr => ?_
  refine ln ?_
  refine sr ?_
  obtain ⟨S9, e10, H⟩ := bd1 H
  refine oo [17, 18, 19] [pA B0 0, vI p1, vI (at_ p0.cell p1.toNat)] hr fun a hr => ?_
  have hc := cells_Arena_note_ok (H := e10) (h := h)
  refine cl (wn rfl) hr hc ?_; clear hc h
  rintro _ w ⟨caq11, ccq12, caq13, ccq14, rfl, h⟩; refine ⟨_, rfl, fun a hr => ?_⟩
  refine ln ?_
  refine sr ?_
  refine oo [21, 4, 5] [vI (at_ p0.cell p1.toNat), vI (at_ p0.cell p1.toNat), vI 0] hr fun a hr => ?_
  refine ln ?_
  refine wp_ret ?_
  refine end_ret2 (v := vI (at_ p0.cell p1.toNat)) (v' := vI 0) rfl hr (by kernel_rfl) (by kernel_rfl) ?_
  obtain ⟨rfl, rfl, rfl⟩ := ej3 H
  exact ⟨caq11, ccq12, caq13, ccq14, rfl, h⟩

/-- (*plunder/frames.Op).fetch -/
def frames_Op_fetch_iface (p0 : T_frames_Op) (p1 : T_cells_Arena) : Option (Int × T_frames_Op × T_cells_Arena) :=
  ob1 (frames_Table__slot (⟨p0.head_t_Base, p0.head_t_Frames⟩ : T_frames_Table) p0.head_frame p0.slot) (fun r5 => ob3 (cells_Arena_Load p1 r5) (fun r7 r8 S9 => (if r8 = 0 then ob1 (frames_head_end p0 15 r7) (fun S16 => some (r8, S16, S9)) else some (r8, p0, S9))))

set_option maxRecDepth 100000 in
set_option maxHeartbeats 4000000 in
theorem frames_Op_fetch_iface_ok {z w : World} {L : List HProp} {p0 : T_frames_Op} {p1 : T_cells_Arena} {B0 : Nat} {B1 : Nat} {ca1 : Option Addr} {cc2 : Nat} {ca3 : Option Addr} {cc4 : Nat} {r0 : Int} {q0 : T_frames_Op} {q1 : T_cells_Arena} (H : frames_Op_fetch_iface p0 p1 = some (r0, q0, q1)) (h : Fit z (sepL (ob50 B0 p0 :: ob103 B1 p1 ca1 cc2 ca3 cc4 :: ro2 ca1 cc2 p1.cell :: ro96 ca3 cc4 p1.log :: L)) w)  :
    Calls Try.prog 86 #[pA B0 0, .iface 26 (pA B1 0)] w fun e w => ∃ caq1_1 : Option Addr, ∃ ccq1_2 : Nat, ∃ caq1_3 : Option Addr, ∃ ccq1_4 : Nat, e = .returned (vI r0) ∧ Fit z (sepL (ob50 B0 q0 :: ob103 B1 q1 caq1_1 ccq1_2 caq1_3 ccq1_4 :: ro2 caq1_1 ccq1_2 q1.cell :: ro96 caq1_3 ccq1_4 q1.log :: L)) w := by
 unfold frames_Op_fetch_iface at H
 refine enter Try.func86 rfl 38 rfl rfl [(0, pA B0 0), (1, .iface 26 (pA B1 0))] ⟨rfl, rfl, trivial⟩ ?_
 intro j a hr
 refine sr ?_
 refine o1 hr (vI 0) fun a hr => ?_
 refine ln ?_
 refine wp_seq ?_
 obtain ⟨r5, e6, H⟩ := bd1 H
 obtain ⟨r7, r8, S9, e10, H⟩ := bd3 H
 refine reg_E (fun w => heldC w B0 0 ([vI p0.head_t_Base, vI p0.head_t_Frames]) ∧ heldC w B0 2 ([vI p0.head_frame]) ∧ heldC w B0 7 ([vI p0.slot]) ∧ True) [2, 3, 4, 7, 8, 9, 12, 13, 15, 16, 17] h (by kernel_rfl) ?_; intro w h
 change wpAnyE _ _ _ _ _ _ 25 (Array.replicate 25 false) a w
 have hgo : ∀ w w', CellsGo w w' → (heldC w B0 0 ([vI p0.head_t_Base, vI p0.head_t_Frames]) ∧ heldC w B0 2 ([vI p0.head_frame]) ∧ heldC w B0 7 ([vI p0.slot]) ∧ True) → heldC w' B0 0 ([vI p0.head_t_Base, vI p0.head_t_Frames]) ∧ heldC w' B0 2 ([vI p0.head_frame]) ∧ heldC w' B0 7 ([vI p0.slot]) ∧ True := fun w w' g hD => ⟨heldC_go _ _ _ _ _ g hD.1, heldC_go _ _ _ _ _ g hD.2.1, heldC_go _ _ _ _ _ g hD.2.2.1, trivial⟩
 refine evs 24 0 rfl (wn rfl) hr (.iface 26 (pA B1 0)) fun a hr => ?_
 refine evs 23 1 rfl (wn rfl) hr (pA B0 0) fun a hr => ?_
 refine evDs hgo ⟨(h.held 0 rfl), ⟨h.cell 2 rfl, trivial⟩, ⟨h.cell 7 rfl, trivial⟩, trivial⟩ 22 2 rfl (wn rfl) hr (pA B0 0) fun a hr => ?_
 refine evDs hgo ⟨(h.held 0 rfl), ⟨h.cell 2 rfl, trivial⟩, ⟨h.cell 7 rfl, trivial⟩, trivial⟩ 21 3 rfl (wn rfl) hr (pA B0 0) fun a hr => ?_
 refine evDs hgo ⟨(h.held 0 rfl), ⟨h.cell 2 rfl, trivial⟩, ⟨h.cell 7 rfl, trivial⟩, trivial⟩ 20 4 rfl (wn rfl) hr (pA B0 0) fun a hr => ?_
 refine evs 19 6 rfl (wn rfl) hr (pA B0 0) fun a hr => ?_
 refine evDs hgo ⟨(h.held 0 rfl), ⟨h.cell 2 rfl, trivial⟩, ⟨h.cell 7 rfl, trivial⟩, trivial⟩ 18 7 rfl (wn rfl) hr (pA B0 0) fun a hr => ?_
 refine evDs hgo ⟨(h.held 0 rfl), ⟨h.cell 2 rfl, trivial⟩, ⟨h.cell 7 rfl, trivial⟩, trivial⟩ 17 8 rfl (wn rfl) hr (pA B0 0) fun a hr => ?_
 refine evDs hgo ⟨(h.held 0 rfl), ⟨h.cell 2 rfl, trivial⟩, ⟨h.cell 7 rfl, trivial⟩, trivial⟩ 16 9 rfl (wn rfl) hr (pA B0 2) fun a hr => ?_
 refine evs 15 11 rfl (wn rfl) hr (pA B0 0) fun a hr => ?_
 refine evDs hgo ⟨(h.held 0 rfl), ⟨h.cell 2 rfl, trivial⟩, ⟨h.cell 7 rfl, trivial⟩, trivial⟩ 14 12 rfl (wn rfl) hr (pA B0 0) fun a hr => ?_
 refine evDs hgo ⟨(h.held 0 rfl), ⟨h.cell 2 rfl, trivial⟩, ⟨h.cell 7 rfl, trivial⟩, trivial⟩ 13 13 rfl (wn rfl) hr (pA B0 7) fun a hr => ?_
 refine evDs hgo ⟨(h.held 0 rfl), ⟨h.cell 2 rfl, trivial⟩, ⟨h.cell 7 rfl, trivial⟩, trivial⟩ 12 16 rfl (wn rfl) hr (.func (.method "Load") #[.iface 26 (pA B1 0)] #[]) fun a hr => ?_
 refine evDs hgo ⟨(h.held 0 rfl), ⟨h.cell 2 rfl, trivial⟩, ⟨h.cell 7 rfl, trivial⟩, trivial⟩ 11 17 rfl (wn rfl) hr (.func (.method "Load") #[.iface 26 (pA B1 0)] #[]) fun a hr => ?_
 refine evs 10 18 rfl (wn rfl) hr (.iface 26 (pA B1 0)) fun a hr => ?_
 refine el [2, 3, 4, 7, 8, 9, 12, 13, 15, 16, 17] (b := B0) (off := 0) (cs := [vI p0.head_t_Base, vI p0.head_t_Frames]) (fun _ hk => ⟨hk, fun w hD => hD.1⟩) 9 5 rfl (by kernel_rfl) (wn rfl) hr (.agg #[vI p0.head_t_Base, vI p0.head_t_Frames]) (h.held 0 rfl) (fun w hc => rlm (cs := [vI p0.head_t_Base, vI p0.head_t_Frames]) rfl (by kernel_rfl) (by kernel_rfl) (by kernel_rfl) hc) fun a hr => ?_
 refine el [2, 3, 4, 7, 8, 9, 12, 13, 15, 16, 17] (b := B0) (off := 2) (cs := [vI p0.head_frame]) (fun _ hk => ⟨hk, fun w hD => hD.2.1⟩) 8 10 rfl (by kernel_rfl) (wn rfl) hr (vI p0.head_frame) ⟨h.cell 2 rfl, trivial⟩ (fun w hc => rl rfl (by kernel_rfl) (by kernel_rfl) hc.1) fun a hr => ?_
 refine el [2, 3, 4, 7, 8, 9, 12, 13, 15, 16, 17] (b := B0) (off := 7) (cs := [vI p0.slot]) (fun _ hk => ⟨hk, fun w hD => hD.2.2.1⟩) 7 14 rfl (by kernel_rfl) (wn rfl) hr (vI p0.slot) ⟨h.cell 7 rfl, trivial⟩ (fun w hc => rl rfl (by kernel_rfl) (by kernel_rfl) hc.1) fun a hr => ?_
 refine e_one (fuel := 6) (i := 15) (by kernel_rfl) rfl ?_
 have hc := frames_Table__slot_ok (H := e6) (h := h)
 refine cl (wn rfl) hr hc ?_; clear hc h
 rintro _ w ⟨rfl, h⟩; refine ⟨_, rfl, fun a hr => ?_⟩
 refine wpList_nil ?_; refine then_normal ?_
 refine ⟨fun _ => ⟨(h.held 0 rfl), ⟨h.cell 2 rfl, trivial⟩, ⟨h.cell 7 rfl, trivial⟩, trivial⟩, ?_⟩
 refine e_one (fuel := 5) (i := 19) (by kernel_rfl) rfl ?_
 replace h : Fit z (sepL (ob103 B1 p1 ca1 cc2 ca3 cc4 :: ro2 ca1 cc2 p1.cell :: ro96 ca3 cc4 p1.log :: ob50 B0 p0 :: L)) _ := h.sel 4 [1, 2, 3, 0] (by kernel_rfl) (by kernel_rfl)
 have hc := cells_Arena_Load_ok (H := e10) (h := h)
 refine cl (wn rfl) hr hc ?_; clear hc h
 rintro _ w ⟨caq11, ccq12, caq13, ccq14, rfl, h⟩; refine ⟨_, rfl, fun a hr => ?_⟩
 refine wpList_nil ?_; refine then_normal ?_
 refine ⟨fun hE => absurd hE (by decide), ?_⟩
 refine evs 4 20 rfl (wn rfl) hr (.tuple #[vI r7, vI r8]) fun a hr => ?_
 refine evs 3 21 rfl (wn rfl) hr (vI r7) fun a hr => ?_
 refine evs 2 22 rfl (wn rfl) hr (vI r8) fun a hr => ?_
 refine evs 1 23 rfl (wn rfl) hr (vI r7) fun a hr => ?_
 refine evs 0 24 rfl (wn rfl) hr (vI r8) fun a hr => ?_
 refine e_end (by kernel_rfl) ?_
 refine then_normal ?_
 refine wp_seq ?_
 refine sr ?_
 refine oo [30, 31] [vI r8, vB (r8 == 0)] hr fun a hr => ?_
 refine ln ?_
 by_cases c15 : r8 = 0
 ·
  replace H := ifT c15 H
  refine cond_tt hr (beq_iff_eq.mpr c15) ?_
  refine wp_region_lit ?_
  obtain ⟨S16, e17, H⟩ := bd1 H
  refine oo [32, 33, 34, 35] [pA B0 0, pA B0 0, pA B0 0, vI r7] hr fun a hr => ?_
  replace h : Fit z (sepL (ob50 B0 p0 :: ob103 B1 S9 caq11 ccq12 caq13 ccq14 :: ro2 caq11 ccq12 S9.cell :: ro96 caq13 ccq14 S9.log :: L)) _ := h.sel 4 [3, 0, 1, 2] (by kernel_rfl) (by kernel_rfl)
  have hc := frames_head_end_ok (H := e17) (h := h)
  refine cl (wn rfl) hr hc ?_; clear hc h
  rintro _ w ⟨rfl, h⟩; refine ⟨_, rfl, fun a hr => ?_⟩
  refine ln ?_
  refine sr ?_
  refine oo [37, 4] [vI r8, vI r8] hr fun a hr => ?_
  refine ln ?_
  refine wp_ret ?_
  refine end_ret1 (v := vI r8) rfl hr (by kernel_rfl) ?_
  obtain ⟨rfl, rfl, rfl⟩ := ej3 H
  exact ⟨caq11, ccq12, caq13, ccq14, rfl, h⟩
 ·
  replace H := ifF c15 H
  refine cond_ff hr (beq_eq_false_iff_ne.mpr c15) ?_
  refine wp_skip ?_
  refine then_normal ?_
  refine sr ?_
  refine oo [37, 4] [vI r8, vI r8] hr fun a hr => ?_
  refine ln ?_
  refine wp_ret ?_
  refine end_ret1 (v := vI r8) rfl hr (by kernel_rfl) ?_
  replace h : Fit z (sepL (ob50 B0 p0 :: ob103 B1 S9 caq11 ccq12 caq13 ccq14 :: ro2 caq11 ccq12 S9.cell :: ro96 caq13 ccq14 S9.log :: L)) _ := h.sel 4 [3, 0, 1, 2] (by kernel_rfl) (by kernel_rfl)
  obtain ⟨rfl, rfl, rfl⟩ := ej3 H
  exact ⟨caq11, ccq12, caq13, ccq14, rfl, h⟩

/-- plunder/frames.Step -/
def frames_Step_iface (p0 : T_cells_Arena) (p1 : T_frames_Op) : Option (T_frames_Op × T_cells_Arena) :=
  (if p1.head_stands = 0 then some (p1, p0) else (if p1.kind = 0 then ob3 (frames_Op_alloc_iface p1 p0) (fun r9 S10 S11 => (if r9 = 0 then (if S10.head_stands > 0 then some ({ S10 with head_stands := wi (S10.head_stands + 1) }, S11) else some (S10, S11)) else ob1 (frames_head_end S10 1 0) (fun S19 => some (S19, S11)))) else (if p1.kind = 1 then ob3 (frames_Op_fork_iface p1 p0) (fun r22 S23 S24 => (if r22 = 0 then (if S23.head_stands > 0 then some ({ S23 with head_stands := wi (S23.head_stands + 1) }, S24) else some (S23, S24)) else ob1 (frames_head_end S23 1 0) (fun S32 => some (S32, S24)))) else (if p1.kind = 2 then ob3 (frames_Op_finish_iface p1 p0) (fun r35 S36 S37 => (if r35 = 0 then (if S36.head_stands > 0 then some ({ S36 with head_stands := wi (S36.head_stands + 1) }, S37) else some (S36, S37)) else ob1 (frames_head_end S36 1 0) (fun S45 => some (S45, S37)))) else (if p1.kind = 3 then ob3 (frames_Op_sync_iface p1 p0) (fun r48 S49 S50 => (if r48 = 0 then (if S49.head_stands > 0 then some ({ S49 with head_stands := wi (S49.head_stands + 1) }, S50) else some (S49, S50)) else ob1 (frames_head_end S49 1 0) (fun S58 => some (S58, S50)))) else (if p1.kind = 4 then ob3 (frames_Op_start_iface p1 p0) (fun r61 S62 S63 => (if r61 = 0 then (if S62.head_stands > 0 then some ({ S62 with head_stands := wi (S62.head_stands + 1) }, S63) else some (S62, S63)) else ob1 (frames_head_end S62 1 0) (fun S71 => some (S71, S63)))) else ob3 (frames_Op_fetch_iface p1 p0) (fun r73 S74 S75 => (if r73 = 0 then (if S74.head_stands > 0 then some ({ S74 with head_stands := wi (S74.head_stands + 1) }, S75) else some (S74, S75)) else ob1 (frames_head_end S74 1 0) (fun S83 => some (S83, S75))))))))))

set_option maxRecDepth 100000 in
set_option maxHeartbeats 4000000 in
theorem frames_Step_iface_ok {z w : World} {L : List HProp} {p0 : T_cells_Arena} {p1 : T_frames_Op} {B0 : Nat} {ca1 : Option Addr} {cc2 : Nat} {ca3 : Option Addr} {cc4 : Nat} {r0 : T_frames_Op} {q0 : T_cells_Arena} (H : frames_Step_iface p0 p1 = some (r0, q0)) (h : Fit z (sepL (ob103 B0 p0 ca1 cc2 ca3 cc4 :: ro2 ca1 cc2 p0.cell :: ro96 ca3 cc4 p0.log :: L)) w)  :
    Calls Try.prog 28 #[.iface 26 (pA B0 0), ag_T_frames_Op p1] w fun e w => ∃ caq0_1 : Option Addr, ∃ ccq0_2 : Nat, ∃ caq0_3 : Option Addr, ∃ ccq0_4 : Nat, e = .returned (ag_T_frames_Op r0) ∧ Fit z (sepL (ob103 B0 q0 caq0_1 ccq0_2 caq0_3 ccq0_4 :: ro2 caq0_1 ccq0_2 q0.cell :: ro96 caq0_3 ccq0_4 q0.log :: L)) w := by
 unfold frames_Step_iface at H
 refine enter Try.func28 rfl 36 rfl rfl [(0, .iface 26 (pA B0 0)), (1, ag_T_frames_Op p1)] ⟨rfl, rfl, trivial⟩ ?_
 intro j a hr
 refine sr ?_
 refine onew (wn rfl) hr h nb (ca_T_frames_Op p1) 50 fun b5 w a h hr => ?_
 refine onew (wn rfl) hr h nb (#[vI 0, vI 0, vI 0, vI 0, vI 0, vI 0, vI 0, vI 0, vI 0]) 50 fun b6 w a h hr => ?_
 refine ln ?_
 refine wp_seq ?_
 refine sr ?_
 refine oo [6, 7] [pA b5 0, pA b5 3] hr fun a hr => ?_
 refine ld (wn rfl) hr (vI p1.head_stands) ((h.pick 1).cell 3 rfl) fun a hr => ?_
 refine o1 hr (vB (p1.head_stands == 0)) fun a hr => ?_
 refine ln ?_
 by_cases c7 : p1.head_stands = 0
 ·
  replace H := ifT c7 H
  refine cond_tt hr (beq_iff_eq.mpr c7) ?_
  refine sr ?_
  refine ldm (wn rfl) hr (ag_T_frames_Op p1) (cs := cl_T_frames_Op p1) ((h.pick 1).held 0 rfl) fun a hr => ?_
  refine stos (wn rfl) hr h 0 (cl_T_frames_Op p1) (ca_T_frames_Op p1) fun w h => ?_
  refine wpList_nil ?_
  replace h : Fit z (sepL (ob50 b6 p1 :: ob50 b5 p1 :: ob103 B0 p0 ca1 cc2 ca3 cc4 :: ro2 ca1 cc2 p0.cell :: ro96 ca3 cc4 p0.log :: L)) _ := h
  refine then_normal ?_
  refine wp_ret ?_
  refine then_ret ?_
  refine end_retC (cs := cl_T_frames_Op p1) rfl hr (by kernel_rfl) (by kernel_rfl) (by kernel_rfl) (h.held 0 rfl) ?_
  replace h : Fit z (sepL (ob103 B0 p0 ca1 cc2 ca3 cc4 :: ro2 ca1 cc2 p0.cell :: ro96 ca3 cc4 p0.log :: L)) _ := h.sel 5 [2, 3, 4] (by kernel_rfl) (by kernel_rfl)
  obtain ⟨rfl, rfl⟩ := ej2 H
  exact ⟨ca1, cc2, ca3, cc4, rfl, h⟩
 ·
  replace H := ifF c7 H
  refine cond_ff hr (beq_eq_false_iff_ne.mpr c7) ?_
  refine wp_skip ?_
  refine then_normal ?_
  refine wp_seq ?_
  refine sr ?_
  refine oo [11, 12] [.iface 26 (pA B0 0), vB false] hr fun a hr => ?_
  refine ln ?_
  refine cond_ff hr (b := false) rfl ?_
  refine wp_skip ?_
  refine then_normal ?_
  refine wp_seq ?_
  refine sr ?_
  refine o1 hr (pA b5 6) fun a hr => ?_
  refine ld (wn rfl) hr (vI p1.kind) ((h.pick 1).cell 6 rfl) fun a hr => ?_
  refine op_inl (wn rfl) rfl rfl hr (f := 57) (args := #[vI p1.kind]) (by kernel_rfl) ?_; clear hr a
  refine enter Try.func57 rfl 14 rfl rfl [(0, vI p1.kind)] ⟨by kernel_rfl, trivial⟩ ?_; intro j a hr
  refine sr ?_
  refine o1 hr (.nilFunc) fun a hr => ?_
  refine ln ?_
  refine wp_seq ?_
  refine sr ?_
  refine o1 hr (vI p1.kind) fun a hr => ?_
  refine ln ?_
  refine wp_block ?_
  refine sr ?_
  refine oo [5, 4] [vB (p1.kind == 0), vB (p1.kind == 0)] hr fun a hr => ?_
  refine ln ?_
  by_cases c8 : p1.kind = 0
  ·
   replace H := ifT c8 H
   refine cond_tt hr (beq_iff_eq.mpr c8) ?_
   refine sr ?_
   refine o1 hr (.func (.func 81) #[] #[]) fun a hr => ?_
   refine ln ?_
   refine wp_ret ?_
   refine blk_ret ?_
   refine then_ret ?_
   refine end_ret1 (v := .func (.func 81) #[] #[]) rfl hr (by kernel_rfl) ?_
   refine ⟨_, rfl, ?_⟩; clear hr a; intro a hr
   obtain ⟨r9, S10, S11, e12, H⟩ := bd3 H
   refine o1 hr (.iface 26 (pA B0 0)) fun a hr => ?_
   replace h : Fit z (sepL (ob50 b5 p1 :: ob103 B0 p0 ca1 cc2 ca3 cc4 :: ro2 ca1 cc2 p0.cell :: ro96 ca3 cc4 p0.log :: pts b6 (.cells #[vI 0, vI 0, vI 0, vI 0, vI 0, vI 0, vI 0, vI 0, vI 0] 50) :: L)) _ := h.sel 5 [1, 2, 3, 4, 0] (by kernel_rfl) (by kernel_rfl)
   have hc := frames_Op_alloc_iface_ok (H := e12) (h := h)
   refine cl (wn rfl) hr hc ?_; clear hc h
   rintro _ w ⟨caq13, ccq14, caq15, ccq16, rfl, h⟩; refine ⟨_, rfl, fun a hr => ?_⟩
   refine o1 hr (vI r9) fun a hr => ?_
   refine ln ?_
   refine sr ?_
   refine oo [21, 22] [vI r9, vB (r9 != 0)] hr fun a hr => ?_
   refine ln ?_
   by_cases c17 : r9 = 0
   ·
    replace H := ifT c17 H
    refine cond_ff hr (bne_eq_false_iff_eq.mpr c17) ?_
    refine sr ?_
    refine oo [25, 26] [pA b5 0, pA b5 3] hr fun a hr => ?_
    refine ld (wn rfl) hr (vI S10.head_stands) (h.cell 3 rfl) fun a hr => ?_
    refine o1 hr (vB (decide (S10.head_stands > 0))) fun a hr => ?_
    refine ln ?_
    by_cases c18 : S10.head_stands > 0
    ·
     replace H := ifT c18 H
     refine cond_tt hr (decide_eq_true c18) ?_
     refine wp_region_lit ?_
     refine oo [29, 30] [pA b5 0, pA b5 3] hr fun a hr => ?_
     refine ld (wn rfl) hr (vI S10.head_stands) (h.cell 3 rfl) fun a hr => ?_
     refine oo [32, 33, 34] [vI (wi (S10.head_stands + 1)), pA b5 0, pA b5 3] hr fun a hr => ?_
     refine sto (wn rfl) hr h 3 (vI (wi (S10.head_stands + 1))) fun w h => ?_
     refine wpList_nil ?_
     replace h : Fit z (sepL (pts b5 (.cells #[vI S10.head_t_Base, vI S10.head_t_Frames, vI S10.head_frame, vI (wi (S10.head_stands + 1)), vI S10.head_code, vI S10.head_v, vI S10.kind, vI S10.slot, vI S10.give] 50) :: ob103 B0 S11 caq13 ccq14 caq15 ccq16 :: ro2 caq13 ccq14 S11.cell :: ro96 caq15 ccq16 S11.log :: pts b6 (.cells #[vI 0, vI 0, vI 0, vI 0, vI 0, vI 0, vI 0, vI 0, vI 0] 50) :: L)) _ := h
     refine then_normal ?_
     refine sr ?_
     refine ldm (wn rfl) hr (.agg #[vI S10.head_t_Base, vI S10.head_t_Frames, vI S10.head_frame, vI (wi (S10.head_stands + 1)), vI S10.head_code, vI S10.head_v, vI S10.kind, vI S10.slot, vI S10.give]) (cs := [vI S10.head_t_Base, vI S10.head_t_Frames, vI S10.head_frame, vI (wi (S10.head_stands + 1)), vI S10.head_code, vI S10.head_v, vI S10.kind, vI S10.slot, vI S10.give]) (h.held 0 rfl) fun a hr => ?_
     replace h : Fit z (sepL (pts b6 (.cells #[vI 0, vI 0, vI 0, vI 0, vI 0, vI 0, vI 0, vI 0, vI 0] 50) :: pts b5 (.cells #[vI S10.head_t_Base, vI S10.head_t_Frames, vI S10.head_frame, vI (wi (S10.head_stands + 1)), vI S10.head_code, vI S10.head_v, vI S10.kind, vI S10.slot, vI S10.give] 50) :: ob103 B0 S11 caq13 ccq14 caq15 ccq16 :: ro2 caq13 ccq14 S11.cell :: ro96 caq15 ccq16 S11.log :: L)) _ := h.sel 5 [4, 0, 1, 2, 3] (by kernel_rfl) (by kernel_rfl)
     refine stos (wn rfl) hr h 0 ([vI S10.head_t_Base, vI S10.head_t_Frames, vI S10.head_frame, vI (wi (S10.head_stands + 1)), vI S10.head_code, vI S10.head_v, vI S10.kind, vI S10.slot, vI S10.give]) (#[vI S10.head_t_Base, vI S10.head_t_Frames, vI S10.head_frame, vI (wi (S10.head_stands + 1)), vI S10.head_code, vI S10.head_v, vI S10.kind, vI S10.slot, vI S10.give]) fun w h => ?_
     refine wpList_nil ?_
     replace h : Fit z (sepL (pts b6 (.cells #[vI S10.head_t_Base, vI S10.head_t_Frames, vI S10.head_frame, vI (wi (S10.head_stands + 1)), vI S10.head_code, vI S10.head_v, vI S10.kind, vI S10.slot, vI S10.give] 50) :: pts b5 (.cells #[vI S10.head_t_Base, vI S10.head_t_Frames, vI S10.head_frame, vI (wi (S10.head_stands + 1)), vI S10.head_code, vI S10.head_v, vI S10.kind, vI S10.slot, vI S10.give] 50) :: ob103 B0 S11 caq13 ccq14 caq15 ccq16 :: ro2 caq13 ccq14 S11.cell :: ro96 caq15 ccq16 S11.log :: L)) _ := h
     refine then_normal ?_
     refine wp_ret ?_
     refine end_retC (cs := [vI S10.head_t_Base, vI S10.head_t_Frames, vI S10.head_frame, vI (wi (S10.head_stands + 1)), vI S10.head_code, vI S10.head_v, vI S10.kind, vI S10.slot, vI S10.give]) rfl hr (by kernel_rfl) (by kernel_rfl) (by kernel_rfl) (h.held 0 rfl) ?_
     replace h : Fit z (sepL (ob103 B0 S11 caq13 ccq14 caq15 ccq16 :: ro2 caq13 ccq14 S11.cell :: ro96 caq15 ccq16 S11.log :: L)) _ := h.sel 5 [2, 3, 4] (by kernel_rfl) (by kernel_rfl)
     obtain ⟨rfl, rfl⟩ := ej2 H
     exact ⟨caq13, ccq14, caq15, ccq16, rfl, h⟩
    ·
     replace H := ifF c18 H
     refine cond_ff hr (decide_eq_false c18) ?_
     refine wp_skip ?_
     refine then_normal ?_
     refine sr ?_
     refine ldm (wn rfl) hr (ag_T_frames_Op S10) (cs := cl_T_frames_Op S10) (h.held 0 rfl) fun a hr => ?_
     replace h : Fit z (sepL (pts b6 (.cells #[vI 0, vI 0, vI 0, vI 0, vI 0, vI 0, vI 0, vI 0, vI 0] 50) :: ob50 b5 S10 :: ob103 B0 S11 caq13 ccq14 caq15 ccq16 :: ro2 caq13 ccq14 S11.cell :: ro96 caq15 ccq16 S11.log :: L)) _ := h.sel 5 [4, 0, 1, 2, 3] (by kernel_rfl) (by kernel_rfl)
     refine stos (wn rfl) hr h 0 (cl_T_frames_Op S10) (ca_T_frames_Op S10) fun w h => ?_
     refine wpList_nil ?_
     replace h : Fit z (sepL (ob50 b6 S10 :: ob50 b5 S10 :: ob103 B0 S11 caq13 ccq14 caq15 ccq16 :: ro2 caq13 ccq14 S11.cell :: ro96 caq15 ccq16 S11.log :: L)) _ := h
     refine then_normal ?_
     refine wp_ret ?_
     refine end_retC (cs := cl_T_frames_Op S10) rfl hr (by kernel_rfl) (by kernel_rfl) (by kernel_rfl) (h.held 0 rfl) ?_
     replace h : Fit z (sepL (ob103 B0 S11 caq13 ccq14 caq15 ccq16 :: ro2 caq13 ccq14 S11.cell :: ro96 caq15 ccq16 S11.log :: L)) _ := h.sel 5 [2, 3, 4] (by kernel_rfl) (by kernel_rfl)
     obtain ⟨rfl, rfl⟩ := ej2 H
     exact ⟨caq13, ccq14, caq15, ccq16, rfl, h⟩
   ·
    replace H := ifF c17 H
    refine cond_tt hr (bne_iff_ne.mpr c17) ?_
    refine wp_region_lit ?_
    obtain ⟨S19, e20, H⟩ := bd1 H
    refine o1 hr (pA b5 0) fun a hr => ?_
    have hc := frames_head_end_ok (H := e20) (h := h)
    refine cl (wn rfl) hr hc ?_; clear hc h
    rintro _ w ⟨rfl, h⟩; refine ⟨_, rfl, fun a hr => ?_⟩
    refine ln ?_
    refine sr ?_
    refine ldm (wn rfl) hr (ag_T_frames_Op S19) (cs := cl_T_frames_Op S19) (h.held 0 rfl) fun a hr => ?_
    replace h : Fit z (sepL (pts b6 (.cells #[vI 0, vI 0, vI 0, vI 0, vI 0, vI 0, vI 0, vI 0, vI 0] 50) :: ob50 b5 S19 :: ob103 B0 S11 caq13 ccq14 caq15 ccq16 :: ro2 caq13 ccq14 S11.cell :: ro96 caq15 ccq16 S11.log :: L)) _ := h.sel 5 [4, 0, 1, 2, 3] (by kernel_rfl) (by kernel_rfl)
    refine stos (wn rfl) hr h 0 (cl_T_frames_Op S19) (ca_T_frames_Op S19) fun w h => ?_
    refine wpList_nil ?_
    replace h : Fit z (sepL (ob50 b6 S19 :: ob50 b5 S19 :: ob103 B0 S11 caq13 ccq14 caq15 ccq16 :: ro2 caq13 ccq14 S11.cell :: ro96 caq15 ccq16 S11.log :: L)) _ := h
    refine then_normal ?_
    refine wp_ret ?_
    refine end_retC (cs := cl_T_frames_Op S19) rfl hr (by kernel_rfl) (by kernel_rfl) (by kernel_rfl) (h.held 0 rfl) ?_
    replace h : Fit z (sepL (ob103 B0 S11 caq13 ccq14 caq15 ccq16 :: ro2 caq13 ccq14 S11.cell :: ro96 caq15 ccq16 S11.log :: L)) _ := h.sel 5 [2, 3, 4] (by kernel_rfl) (by kernel_rfl)
    obtain ⟨rfl, rfl⟩ := ej2 H
    exact ⟨caq13, ccq14, caq15, ccq16, rfl, h⟩
  ·
   replace H := ifF c8 H
   refine cond_ff hr (beq_eq_false_iff_ne.mpr c8) ?_
   refine sr ?_
   refine oo [7, 6] [vB (p1.kind == 1), vB (p1.kind == 1)] hr fun a hr => ?_
   refine ln ?_
   by_cases c21 : p1.kind = 1
   ·
    replace H := ifT c21 H
    refine cond_tt hr (beq_iff_eq.mpr c21) ?_
    refine sr ?_
    refine o1 hr (.func (.func 82) #[] #[]) fun a hr => ?_
    refine ln ?_
    refine wp_ret ?_
    refine blk_ret ?_
    refine then_ret ?_
    refine end_ret1 (v := .func (.func 82) #[] #[]) rfl hr (by kernel_rfl) ?_
    refine ⟨_, rfl, ?_⟩; clear hr a; intro a hr
    obtain ⟨r22, S23, S24, e25, H⟩ := bd3 H
    refine o1 hr (.iface 26 (pA B0 0)) fun a hr => ?_
    replace h : Fit z (sepL (ob50 b5 p1 :: ob103 B0 p0 ca1 cc2 ca3 cc4 :: ro2 ca1 cc2 p0.cell :: ro96 ca3 cc4 p0.log :: pts b6 (.cells #[vI 0, vI 0, vI 0, vI 0, vI 0, vI 0, vI 0, vI 0, vI 0] 50) :: L)) _ := h.sel 5 [1, 2, 3, 4, 0] (by kernel_rfl) (by kernel_rfl)
    have hc := frames_Op_fork_iface_ok (H := e25) (h := h)
    refine cl (wn rfl) hr hc ?_; clear hc h
    rintro _ w ⟨caq26, ccq27, caq28, ccq29, rfl, h⟩; refine ⟨_, rfl, fun a hr => ?_⟩
    refine o1 hr (vI r22) fun a hr => ?_
    refine ln ?_
    refine sr ?_
    refine oo [21, 22] [vI r22, vB (r22 != 0)] hr fun a hr => ?_
    refine ln ?_
    by_cases c30 : r22 = 0
    ·
     replace H := ifT c30 H
     refine cond_ff hr (bne_eq_false_iff_eq.mpr c30) ?_
     refine sr ?_
     refine oo [25, 26] [pA b5 0, pA b5 3] hr fun a hr => ?_
     refine ld (wn rfl) hr (vI S23.head_stands) (h.cell 3 rfl) fun a hr => ?_
     refine o1 hr (vB (decide (S23.head_stands > 0))) fun a hr => ?_
     refine ln ?_
     by_cases c31 : S23.head_stands > 0
     ·
      replace H := ifT c31 H
      refine cond_tt hr (decide_eq_true c31) ?_
      refine wp_region_lit ?_
      refine oo [29, 30] [pA b5 0, pA b5 3] hr fun a hr => ?_
      refine ld (wn rfl) hr (vI S23.head_stands) (h.cell 3 rfl) fun a hr => ?_
      refine oo [32, 33, 34] [vI (wi (S23.head_stands + 1)), pA b5 0, pA b5 3] hr fun a hr => ?_
      refine sto (wn rfl) hr h 3 (vI (wi (S23.head_stands + 1))) fun w h => ?_
      refine wpList_nil ?_
      replace h : Fit z (sepL (pts b5 (.cells #[vI S23.head_t_Base, vI S23.head_t_Frames, vI S23.head_frame, vI (wi (S23.head_stands + 1)), vI S23.head_code, vI S23.head_v, vI S23.kind, vI S23.slot, vI S23.give] 50) :: ob103 B0 S24 caq26 ccq27 caq28 ccq29 :: ro2 caq26 ccq27 S24.cell :: ro96 caq28 ccq29 S24.log :: pts b6 (.cells #[vI 0, vI 0, vI 0, vI 0, vI 0, vI 0, vI 0, vI 0, vI 0] 50) :: L)) _ := h
      refine then_normal ?_
      refine sr ?_
      refine ldm (wn rfl) hr (.agg #[vI S23.head_t_Base, vI S23.head_t_Frames, vI S23.head_frame, vI (wi (S23.head_stands + 1)), vI S23.head_code, vI S23.head_v, vI S23.kind, vI S23.slot, vI S23.give]) (cs := [vI S23.head_t_Base, vI S23.head_t_Frames, vI S23.head_frame, vI (wi (S23.head_stands + 1)), vI S23.head_code, vI S23.head_v, vI S23.kind, vI S23.slot, vI S23.give]) (h.held 0 rfl) fun a hr => ?_
      replace h : Fit z (sepL (pts b6 (.cells #[vI 0, vI 0, vI 0, vI 0, vI 0, vI 0, vI 0, vI 0, vI 0] 50) :: pts b5 (.cells #[vI S23.head_t_Base, vI S23.head_t_Frames, vI S23.head_frame, vI (wi (S23.head_stands + 1)), vI S23.head_code, vI S23.head_v, vI S23.kind, vI S23.slot, vI S23.give] 50) :: ob103 B0 S24 caq26 ccq27 caq28 ccq29 :: ro2 caq26 ccq27 S24.cell :: ro96 caq28 ccq29 S24.log :: L)) _ := h.sel 5 [4, 0, 1, 2, 3] (by kernel_rfl) (by kernel_rfl)
      refine stos (wn rfl) hr h 0 ([vI S23.head_t_Base, vI S23.head_t_Frames, vI S23.head_frame, vI (wi (S23.head_stands + 1)), vI S23.head_code, vI S23.head_v, vI S23.kind, vI S23.slot, vI S23.give]) (#[vI S23.head_t_Base, vI S23.head_t_Frames, vI S23.head_frame, vI (wi (S23.head_stands + 1)), vI S23.head_code, vI S23.head_v, vI S23.kind, vI S23.slot, vI S23.give]) fun w h => ?_
      refine wpList_nil ?_
      replace h : Fit z (sepL (pts b6 (.cells #[vI S23.head_t_Base, vI S23.head_t_Frames, vI S23.head_frame, vI (wi (S23.head_stands + 1)), vI S23.head_code, vI S23.head_v, vI S23.kind, vI S23.slot, vI S23.give] 50) :: pts b5 (.cells #[vI S23.head_t_Base, vI S23.head_t_Frames, vI S23.head_frame, vI (wi (S23.head_stands + 1)), vI S23.head_code, vI S23.head_v, vI S23.kind, vI S23.slot, vI S23.give] 50) :: ob103 B0 S24 caq26 ccq27 caq28 ccq29 :: ro2 caq26 ccq27 S24.cell :: ro96 caq28 ccq29 S24.log :: L)) _ := h
      refine then_normal ?_
      refine wp_ret ?_
      refine end_retC (cs := [vI S23.head_t_Base, vI S23.head_t_Frames, vI S23.head_frame, vI (wi (S23.head_stands + 1)), vI S23.head_code, vI S23.head_v, vI S23.kind, vI S23.slot, vI S23.give]) rfl hr (by kernel_rfl) (by kernel_rfl) (by kernel_rfl) (h.held 0 rfl) ?_
      replace h : Fit z (sepL (ob103 B0 S24 caq26 ccq27 caq28 ccq29 :: ro2 caq26 ccq27 S24.cell :: ro96 caq28 ccq29 S24.log :: L)) _ := h.sel 5 [2, 3, 4] (by kernel_rfl) (by kernel_rfl)
      obtain ⟨rfl, rfl⟩ := ej2 H
      exact ⟨caq26, ccq27, caq28, ccq29, rfl, h⟩
     ·
      replace H := ifF c31 H
      refine cond_ff hr (decide_eq_false c31) ?_
      refine wp_skip ?_
      refine then_normal ?_
      refine sr ?_
      refine ldm (wn rfl) hr (ag_T_frames_Op S23) (cs := cl_T_frames_Op S23) (h.held 0 rfl) fun a hr => ?_
      replace h : Fit z (sepL (pts b6 (.cells #[vI 0, vI 0, vI 0, vI 0, vI 0, vI 0, vI 0, vI 0, vI 0] 50) :: ob50 b5 S23 :: ob103 B0 S24 caq26 ccq27 caq28 ccq29 :: ro2 caq26 ccq27 S24.cell :: ro96 caq28 ccq29 S24.log :: L)) _ := h.sel 5 [4, 0, 1, 2, 3] (by kernel_rfl) (by kernel_rfl)
      refine stos (wn rfl) hr h 0 (cl_T_frames_Op S23) (ca_T_frames_Op S23) fun w h => ?_
      refine wpList_nil ?_
      replace h : Fit z (sepL (ob50 b6 S23 :: ob50 b5 S23 :: ob103 B0 S24 caq26 ccq27 caq28 ccq29 :: ro2 caq26 ccq27 S24.cell :: ro96 caq28 ccq29 S24.log :: L)) _ := h
      refine then_normal ?_
      refine wp_ret ?_
      refine end_retC (cs := cl_T_frames_Op S23) rfl hr (by kernel_rfl) (by kernel_rfl) (by kernel_rfl) (h.held 0 rfl) ?_
      replace h : Fit z (sepL (ob103 B0 S24 caq26 ccq27 caq28 ccq29 :: ro2 caq26 ccq27 S24.cell :: ro96 caq28 ccq29 S24.log :: L)) _ := h.sel 5 [2, 3, 4] (by kernel_rfl) (by kernel_rfl)
      obtain ⟨rfl, rfl⟩ := ej2 H
      exact ⟨caq26, ccq27, caq28, ccq29, rfl, h⟩
    ·
     replace H := ifF c30 H
     refine cond_tt hr (bne_iff_ne.mpr c30) ?_
     refine wp_region_lit ?_
     obtain ⟨S32, e33, H⟩ := bd1 H
     refine o1 hr (pA b5 0) fun a hr => ?_
     have hc := frames_head_end_ok (H := e33) (h := h)
     refine cl (wn rfl) hr hc ?_; clear hc h
     rintro _ w ⟨rfl, h⟩; refine ⟨_, rfl, fun a hr => ?_⟩
     refine ln ?_
     refine sr ?_
     refine ldm (wn rfl) hr (ag_T_frames_Op S32) (cs := cl_T_frames_Op S32) (h.held 0 rfl) fun a hr => ?_
     replace h : Fit z (sepL (pts b6 (.cells #[vI 0, vI 0, vI 0, vI 0, vI 0, vI 0, vI 0, vI 0, vI 0] 50) :: ob50 b5 S32 :: ob103 B0 S24 caq26 ccq27 caq28 ccq29 :: ro2 caq26 ccq27 S24.cell :: ro96 caq28 ccq29 S24.log :: L)) _ := h.sel 5 [4, 0, 1, 2, 3] (by kernel_rfl) (by kernel_rfl)
     refine stos (wn rfl) hr h 0 (cl_T_frames_Op S32) (ca_T_frames_Op S32) fun w h => ?_
     refine wpList_nil ?_
     replace h : Fit z (sepL (ob50 b6 S32 :: ob50 b5 S32 :: ob103 B0 S24 caq26 ccq27 caq28 ccq29 :: ro2 caq26 ccq27 S24.cell :: ro96 caq28 ccq29 S24.log :: L)) _ := h
     refine then_normal ?_
     refine wp_ret ?_
     refine end_retC (cs := cl_T_frames_Op S32) rfl hr (by kernel_rfl) (by kernel_rfl) (by kernel_rfl) (h.held 0 rfl) ?_
     replace h : Fit z (sepL (ob103 B0 S24 caq26 ccq27 caq28 ccq29 :: ro2 caq26 ccq27 S24.cell :: ro96 caq28 ccq29 S24.log :: L)) _ := h.sel 5 [2, 3, 4] (by kernel_rfl) (by kernel_rfl)
     obtain ⟨rfl, rfl⟩ := ej2 H
     exact ⟨caq26, ccq27, caq28, ccq29, rfl, h⟩
   ·
    replace H := ifF c21 H
    refine cond_ff hr (beq_eq_false_iff_ne.mpr c21) ?_
    refine sr ?_
    refine oo [9, 8] [vB (p1.kind == 2), vB (p1.kind == 2)] hr fun a hr => ?_
    refine ln ?_
    by_cases c34 : p1.kind = 2
    ·
     replace H := ifT c34 H
     refine cond_tt hr (beq_iff_eq.mpr c34) ?_
     refine sr ?_
     refine o1 hr (.func (.func 83) #[] #[]) fun a hr => ?_
     refine ln ?_
     refine wp_ret ?_
     refine blk_ret ?_
     refine then_ret ?_
     refine end_ret1 (v := .func (.func 83) #[] #[]) rfl hr (by kernel_rfl) ?_
     refine ⟨_, rfl, ?_⟩; clear hr a; intro a hr
     obtain ⟨r35, S36, S37, e38, H⟩ := bd3 H
     refine o1 hr (.iface 26 (pA B0 0)) fun a hr => ?_
     replace h : Fit z (sepL (ob50 b5 p1 :: ob103 B0 p0 ca1 cc2 ca3 cc4 :: ro2 ca1 cc2 p0.cell :: ro96 ca3 cc4 p0.log :: pts b6 (.cells #[vI 0, vI 0, vI 0, vI 0, vI 0, vI 0, vI 0, vI 0, vI 0] 50) :: L)) _ := h.sel 5 [1, 2, 3, 4, 0] (by kernel_rfl) (by kernel_rfl)
     have hc := frames_Op_finish_iface_ok (H := e38) (h := h)
     refine cl (wn rfl) hr hc ?_; clear hc h
     rintro _ w ⟨caq39, ccq40, caq41, ccq42, rfl, h⟩; refine ⟨_, rfl, fun a hr => ?_⟩
     refine o1 hr (vI r35) fun a hr => ?_
     refine ln ?_
     refine sr ?_
     refine oo [21, 22] [vI r35, vB (r35 != 0)] hr fun a hr => ?_
     refine ln ?_
     by_cases c43 : r35 = 0
     ·
      replace H := ifT c43 H
      refine cond_ff hr (bne_eq_false_iff_eq.mpr c43) ?_
      refine sr ?_
      refine oo [25, 26] [pA b5 0, pA b5 3] hr fun a hr => ?_
      refine ld (wn rfl) hr (vI S36.head_stands) (h.cell 3 rfl) fun a hr => ?_
      refine o1 hr (vB (decide (S36.head_stands > 0))) fun a hr => ?_
      refine ln ?_
      by_cases c44 : S36.head_stands > 0
      ·
       replace H := ifT c44 H
       refine cond_tt hr (decide_eq_true c44) ?_
       refine wp_region_lit ?_
       refine oo [29, 30] [pA b5 0, pA b5 3] hr fun a hr => ?_
       refine ld (wn rfl) hr (vI S36.head_stands) (h.cell 3 rfl) fun a hr => ?_
       refine oo [32, 33, 34] [vI (wi (S36.head_stands + 1)), pA b5 0, pA b5 3] hr fun a hr => ?_
       refine sto (wn rfl) hr h 3 (vI (wi (S36.head_stands + 1))) fun w h => ?_
       refine wpList_nil ?_
       replace h : Fit z (sepL (pts b5 (.cells #[vI S36.head_t_Base, vI S36.head_t_Frames, vI S36.head_frame, vI (wi (S36.head_stands + 1)), vI S36.head_code, vI S36.head_v, vI S36.kind, vI S36.slot, vI S36.give] 50) :: ob103 B0 S37 caq39 ccq40 caq41 ccq42 :: ro2 caq39 ccq40 S37.cell :: ro96 caq41 ccq42 S37.log :: pts b6 (.cells #[vI 0, vI 0, vI 0, vI 0, vI 0, vI 0, vI 0, vI 0, vI 0] 50) :: L)) _ := h
       refine then_normal ?_
       refine sr ?_
       refine ldm (wn rfl) hr (.agg #[vI S36.head_t_Base, vI S36.head_t_Frames, vI S36.head_frame, vI (wi (S36.head_stands + 1)), vI S36.head_code, vI S36.head_v, vI S36.kind, vI S36.slot, vI S36.give]) (cs := [vI S36.head_t_Base, vI S36.head_t_Frames, vI S36.head_frame, vI (wi (S36.head_stands + 1)), vI S36.head_code, vI S36.head_v, vI S36.kind, vI S36.slot, vI S36.give]) (h.held 0 rfl) fun a hr => ?_
       replace h : Fit z (sepL (pts b6 (.cells #[vI 0, vI 0, vI 0, vI 0, vI 0, vI 0, vI 0, vI 0, vI 0] 50) :: pts b5 (.cells #[vI S36.head_t_Base, vI S36.head_t_Frames, vI S36.head_frame, vI (wi (S36.head_stands + 1)), vI S36.head_code, vI S36.head_v, vI S36.kind, vI S36.slot, vI S36.give] 50) :: ob103 B0 S37 caq39 ccq40 caq41 ccq42 :: ro2 caq39 ccq40 S37.cell :: ro96 caq41 ccq42 S37.log :: L)) _ := h.sel 5 [4, 0, 1, 2, 3] (by kernel_rfl) (by kernel_rfl)
       refine stos (wn rfl) hr h 0 ([vI S36.head_t_Base, vI S36.head_t_Frames, vI S36.head_frame, vI (wi (S36.head_stands + 1)), vI S36.head_code, vI S36.head_v, vI S36.kind, vI S36.slot, vI S36.give]) (#[vI S36.head_t_Base, vI S36.head_t_Frames, vI S36.head_frame, vI (wi (S36.head_stands + 1)), vI S36.head_code, vI S36.head_v, vI S36.kind, vI S36.slot, vI S36.give]) fun w h => ?_
       refine wpList_nil ?_
       replace h : Fit z (sepL (pts b6 (.cells #[vI S36.head_t_Base, vI S36.head_t_Frames, vI S36.head_frame, vI (wi (S36.head_stands + 1)), vI S36.head_code, vI S36.head_v, vI S36.kind, vI S36.slot, vI S36.give] 50) :: pts b5 (.cells #[vI S36.head_t_Base, vI S36.head_t_Frames, vI S36.head_frame, vI (wi (S36.head_stands + 1)), vI S36.head_code, vI S36.head_v, vI S36.kind, vI S36.slot, vI S36.give] 50) :: ob103 B0 S37 caq39 ccq40 caq41 ccq42 :: ro2 caq39 ccq40 S37.cell :: ro96 caq41 ccq42 S37.log :: L)) _ := h
       refine then_normal ?_
       refine wp_ret ?_
       refine end_retC (cs := [vI S36.head_t_Base, vI S36.head_t_Frames, vI S36.head_frame, vI (wi (S36.head_stands + 1)), vI S36.head_code, vI S36.head_v, vI S36.kind, vI S36.slot, vI S36.give]) rfl hr (by kernel_rfl) (by kernel_rfl) (by kernel_rfl) (h.held 0 rfl) ?_
       replace h : Fit z (sepL (ob103 B0 S37 caq39 ccq40 caq41 ccq42 :: ro2 caq39 ccq40 S37.cell :: ro96 caq41 ccq42 S37.log :: L)) _ := h.sel 5 [2, 3, 4] (by kernel_rfl) (by kernel_rfl)
       obtain ⟨rfl, rfl⟩ := ej2 H
       exact ⟨caq39, ccq40, caq41, ccq42, rfl, h⟩
      ·
       replace H := ifF c44 H
       refine cond_ff hr (decide_eq_false c44) ?_
       refine wp_skip ?_
       refine then_normal ?_
       refine sr ?_
       refine ldm (wn rfl) hr (ag_T_frames_Op S36) (cs := cl_T_frames_Op S36) (h.held 0 rfl) fun a hr => ?_
       replace h : Fit z (sepL (pts b6 (.cells #[vI 0, vI 0, vI 0, vI 0, vI 0, vI 0, vI 0, vI 0, vI 0] 50) :: ob50 b5 S36 :: ob103 B0 S37 caq39 ccq40 caq41 ccq42 :: ro2 caq39 ccq40 S37.cell :: ro96 caq41 ccq42 S37.log :: L)) _ := h.sel 5 [4, 0, 1, 2, 3] (by kernel_rfl) (by kernel_rfl)
       refine stos (wn rfl) hr h 0 (cl_T_frames_Op S36) (ca_T_frames_Op S36) fun w h => ?_
       refine wpList_nil ?_
       replace h : Fit z (sepL (ob50 b6 S36 :: ob50 b5 S36 :: ob103 B0 S37 caq39 ccq40 caq41 ccq42 :: ro2 caq39 ccq40 S37.cell :: ro96 caq41 ccq42 S37.log :: L)) _ := h
       refine then_normal ?_
       refine wp_ret ?_
       refine end_retC (cs := cl_T_frames_Op S36) rfl hr (by kernel_rfl) (by kernel_rfl) (by kernel_rfl) (h.held 0 rfl) ?_
       replace h : Fit z (sepL (ob103 B0 S37 caq39 ccq40 caq41 ccq42 :: ro2 caq39 ccq40 S37.cell :: ro96 caq41 ccq42 S37.log :: L)) _ := h.sel 5 [2, 3, 4] (by kernel_rfl) (by kernel_rfl)
       obtain ⟨rfl, rfl⟩ := ej2 H
       exact ⟨caq39, ccq40, caq41, ccq42, rfl, h⟩
     ·
      replace H := ifF c43 H
      refine cond_tt hr (bne_iff_ne.mpr c43) ?_
      refine wp_region_lit ?_
      obtain ⟨S45, e46, H⟩ := bd1 H
      refine o1 hr (pA b5 0) fun a hr => ?_
      have hc := frames_head_end_ok (H := e46) (h := h)
      refine cl (wn rfl) hr hc ?_; clear hc h
      rintro _ w ⟨rfl, h⟩; refine ⟨_, rfl, fun a hr => ?_⟩
      refine ln ?_
      refine sr ?_
      refine ldm (wn rfl) hr (ag_T_frames_Op S45) (cs := cl_T_frames_Op S45) (h.held 0 rfl) fun a hr => ?_
      replace h : Fit z (sepL (pts b6 (.cells #[vI 0, vI 0, vI 0, vI 0, vI 0, vI 0, vI 0, vI 0, vI 0] 50) :: ob50 b5 S45 :: ob103 B0 S37 caq39 ccq40 caq41 ccq42 :: ro2 caq39 ccq40 S37.cell :: ro96 caq41 ccq42 S37.log :: L)) _ := h.sel 5 [4, 0, 1, 2, 3] (by kernel_rfl) (by kernel_rfl)
      refine stos (wn rfl) hr h 0 (cl_T_frames_Op S45) (ca_T_frames_Op S45) fun w h => ?_
      refine wpList_nil ?_
      replace h : Fit z (sepL (ob50 b6 S45 :: ob50 b5 S45 :: ob103 B0 S37 caq39 ccq40 caq41 ccq42 :: ro2 caq39 ccq40 S37.cell :: ro96 caq41 ccq42 S37.log :: L)) _ := h
      refine then_normal ?_
      refine wp_ret ?_
      refine end_retC (cs := cl_T_frames_Op S45) rfl hr (by kernel_rfl) (by kernel_rfl) (by kernel_rfl) (h.held 0 rfl) ?_
      replace h : Fit z (sepL (ob103 B0 S37 caq39 ccq40 caq41 ccq42 :: ro2 caq39 ccq40 S37.cell :: ro96 caq41 ccq42 S37.log :: L)) _ := h.sel 5 [2, 3, 4] (by kernel_rfl) (by kernel_rfl)
      obtain ⟨rfl, rfl⟩ := ej2 H
      exact ⟨caq39, ccq40, caq41, ccq42, rfl, h⟩
    ·
     replace H := ifF c34 H
     refine cond_ff hr (beq_eq_false_iff_ne.mpr c34) ?_
     refine sr ?_
     refine oo [11, 10] [vB (p1.kind == 3), vB (p1.kind == 3)] hr fun a hr => ?_
     refine ln ?_
     by_cases c47 : p1.kind = 3
     ·
      replace H := ifT c47 H
      refine cond_tt hr (beq_iff_eq.mpr c47) ?_
      refine sr ?_
      refine o1 hr (.func (.func 84) #[] #[]) fun a hr => ?_
      refine ln ?_
      refine wp_ret ?_
      refine blk_ret ?_
      refine then_ret ?_
      refine end_ret1 (v := .func (.func 84) #[] #[]) rfl hr (by kernel_rfl) ?_
      refine ⟨_, rfl, ?_⟩; clear hr a; intro a hr
      obtain ⟨r48, S49, S50, e51, H⟩ := bd3 H
      refine o1 hr (.iface 26 (pA B0 0)) fun a hr => ?_
      replace h : Fit z (sepL (ob50 b5 p1 :: ob103 B0 p0 ca1 cc2 ca3 cc4 :: ro2 ca1 cc2 p0.cell :: ro96 ca3 cc4 p0.log :: pts b6 (.cells #[vI 0, vI 0, vI 0, vI 0, vI 0, vI 0, vI 0, vI 0, vI 0] 50) :: L)) _ := h.sel 5 [1, 2, 3, 4, 0] (by kernel_rfl) (by kernel_rfl)
      have hc := frames_Op_sync_iface_ok (H := e51) (h := h)
      refine cl (wn rfl) hr hc ?_; clear hc h
      rintro _ w ⟨caq52, ccq53, caq54, ccq55, rfl, h⟩; refine ⟨_, rfl, fun a hr => ?_⟩
      refine o1 hr (vI r48) fun a hr => ?_
      refine ln ?_
      refine sr ?_
      refine oo [21, 22] [vI r48, vB (r48 != 0)] hr fun a hr => ?_
      refine ln ?_
      by_cases c56 : r48 = 0
      ·
       replace H := ifT c56 H
       refine cond_ff hr (bne_eq_false_iff_eq.mpr c56) ?_
       refine sr ?_
       refine oo [25, 26] [pA b5 0, pA b5 3] hr fun a hr => ?_
       refine ld (wn rfl) hr (vI S49.head_stands) (h.cell 3 rfl) fun a hr => ?_
       refine o1 hr (vB (decide (S49.head_stands > 0))) fun a hr => ?_
       refine ln ?_
       by_cases c57 : S49.head_stands > 0
       ·
        replace H := ifT c57 H
        refine cond_tt hr (decide_eq_true c57) ?_
        refine wp_region_lit ?_
        refine oo [29, 30] [pA b5 0, pA b5 3] hr fun a hr => ?_
        refine ld (wn rfl) hr (vI S49.head_stands) (h.cell 3 rfl) fun a hr => ?_
        refine oo [32, 33, 34] [vI (wi (S49.head_stands + 1)), pA b5 0, pA b5 3] hr fun a hr => ?_
        refine sto (wn rfl) hr h 3 (vI (wi (S49.head_stands + 1))) fun w h => ?_
        refine wpList_nil ?_
        replace h : Fit z (sepL (pts b5 (.cells #[vI S49.head_t_Base, vI S49.head_t_Frames, vI S49.head_frame, vI (wi (S49.head_stands + 1)), vI S49.head_code, vI S49.head_v, vI S49.kind, vI S49.slot, vI S49.give] 50) :: ob103 B0 S50 caq52 ccq53 caq54 ccq55 :: ro2 caq52 ccq53 S50.cell :: ro96 caq54 ccq55 S50.log :: pts b6 (.cells #[vI 0, vI 0, vI 0, vI 0, vI 0, vI 0, vI 0, vI 0, vI 0] 50) :: L)) _ := h
        refine then_normal ?_
        refine sr ?_
        refine ldm (wn rfl) hr (.agg #[vI S49.head_t_Base, vI S49.head_t_Frames, vI S49.head_frame, vI (wi (S49.head_stands + 1)), vI S49.head_code, vI S49.head_v, vI S49.kind, vI S49.slot, vI S49.give]) (cs := [vI S49.head_t_Base, vI S49.head_t_Frames, vI S49.head_frame, vI (wi (S49.head_stands + 1)), vI S49.head_code, vI S49.head_v, vI S49.kind, vI S49.slot, vI S49.give]) (h.held 0 rfl) fun a hr => ?_
        replace h : Fit z (sepL (pts b6 (.cells #[vI 0, vI 0, vI 0, vI 0, vI 0, vI 0, vI 0, vI 0, vI 0] 50) :: pts b5 (.cells #[vI S49.head_t_Base, vI S49.head_t_Frames, vI S49.head_frame, vI (wi (S49.head_stands + 1)), vI S49.head_code, vI S49.head_v, vI S49.kind, vI S49.slot, vI S49.give] 50) :: ob103 B0 S50 caq52 ccq53 caq54 ccq55 :: ro2 caq52 ccq53 S50.cell :: ro96 caq54 ccq55 S50.log :: L)) _ := h.sel 5 [4, 0, 1, 2, 3] (by kernel_rfl) (by kernel_rfl)
        refine stos (wn rfl) hr h 0 ([vI S49.head_t_Base, vI S49.head_t_Frames, vI S49.head_frame, vI (wi (S49.head_stands + 1)), vI S49.head_code, vI S49.head_v, vI S49.kind, vI S49.slot, vI S49.give]) (#[vI S49.head_t_Base, vI S49.head_t_Frames, vI S49.head_frame, vI (wi (S49.head_stands + 1)), vI S49.head_code, vI S49.head_v, vI S49.kind, vI S49.slot, vI S49.give]) fun w h => ?_
        refine wpList_nil ?_
        replace h : Fit z (sepL (pts b6 (.cells #[vI S49.head_t_Base, vI S49.head_t_Frames, vI S49.head_frame, vI (wi (S49.head_stands + 1)), vI S49.head_code, vI S49.head_v, vI S49.kind, vI S49.slot, vI S49.give] 50) :: pts b5 (.cells #[vI S49.head_t_Base, vI S49.head_t_Frames, vI S49.head_frame, vI (wi (S49.head_stands + 1)), vI S49.head_code, vI S49.head_v, vI S49.kind, vI S49.slot, vI S49.give] 50) :: ob103 B0 S50 caq52 ccq53 caq54 ccq55 :: ro2 caq52 ccq53 S50.cell :: ro96 caq54 ccq55 S50.log :: L)) _ := h
        refine then_normal ?_
        refine wp_ret ?_
        refine end_retC (cs := [vI S49.head_t_Base, vI S49.head_t_Frames, vI S49.head_frame, vI (wi (S49.head_stands + 1)), vI S49.head_code, vI S49.head_v, vI S49.kind, vI S49.slot, vI S49.give]) rfl hr (by kernel_rfl) (by kernel_rfl) (by kernel_rfl) (h.held 0 rfl) ?_
        replace h : Fit z (sepL (ob103 B0 S50 caq52 ccq53 caq54 ccq55 :: ro2 caq52 ccq53 S50.cell :: ro96 caq54 ccq55 S50.log :: L)) _ := h.sel 5 [2, 3, 4] (by kernel_rfl) (by kernel_rfl)
        obtain ⟨rfl, rfl⟩ := ej2 H
        exact ⟨caq52, ccq53, caq54, ccq55, rfl, h⟩
       ·
        replace H := ifF c57 H
        refine cond_ff hr (decide_eq_false c57) ?_
        refine wp_skip ?_
        refine then_normal ?_
        refine sr ?_
        refine ldm (wn rfl) hr (ag_T_frames_Op S49) (cs := cl_T_frames_Op S49) (h.held 0 rfl) fun a hr => ?_
        replace h : Fit z (sepL (pts b6 (.cells #[vI 0, vI 0, vI 0, vI 0, vI 0, vI 0, vI 0, vI 0, vI 0] 50) :: ob50 b5 S49 :: ob103 B0 S50 caq52 ccq53 caq54 ccq55 :: ro2 caq52 ccq53 S50.cell :: ro96 caq54 ccq55 S50.log :: L)) _ := h.sel 5 [4, 0, 1, 2, 3] (by kernel_rfl) (by kernel_rfl)
        refine stos (wn rfl) hr h 0 (cl_T_frames_Op S49) (ca_T_frames_Op S49) fun w h => ?_
        refine wpList_nil ?_
        replace h : Fit z (sepL (ob50 b6 S49 :: ob50 b5 S49 :: ob103 B0 S50 caq52 ccq53 caq54 ccq55 :: ro2 caq52 ccq53 S50.cell :: ro96 caq54 ccq55 S50.log :: L)) _ := h
        refine then_normal ?_
        refine wp_ret ?_
        refine end_retC (cs := cl_T_frames_Op S49) rfl hr (by kernel_rfl) (by kernel_rfl) (by kernel_rfl) (h.held 0 rfl) ?_
        replace h : Fit z (sepL (ob103 B0 S50 caq52 ccq53 caq54 ccq55 :: ro2 caq52 ccq53 S50.cell :: ro96 caq54 ccq55 S50.log :: L)) _ := h.sel 5 [2, 3, 4] (by kernel_rfl) (by kernel_rfl)
        obtain ⟨rfl, rfl⟩ := ej2 H
        exact ⟨caq52, ccq53, caq54, ccq55, rfl, h⟩
      ·
       replace H := ifF c56 H
       refine cond_tt hr (bne_iff_ne.mpr c56) ?_
       refine wp_region_lit ?_
       obtain ⟨S58, e59, H⟩ := bd1 H
       refine o1 hr (pA b5 0) fun a hr => ?_
       have hc := frames_head_end_ok (H := e59) (h := h)
       refine cl (wn rfl) hr hc ?_; clear hc h
       rintro _ w ⟨rfl, h⟩; refine ⟨_, rfl, fun a hr => ?_⟩
       refine ln ?_
       refine sr ?_
       refine ldm (wn rfl) hr (ag_T_frames_Op S58) (cs := cl_T_frames_Op S58) (h.held 0 rfl) fun a hr => ?_
       replace h : Fit z (sepL (pts b6 (.cells #[vI 0, vI 0, vI 0, vI 0, vI 0, vI 0, vI 0, vI 0, vI 0] 50) :: ob50 b5 S58 :: ob103 B0 S50 caq52 ccq53 caq54 ccq55 :: ro2 caq52 ccq53 S50.cell :: ro96 caq54 ccq55 S50.log :: L)) _ := h.sel 5 [4, 0, 1, 2, 3] (by kernel_rfl) (by kernel_rfl)
       refine stos (wn rfl) hr h 0 (cl_T_frames_Op S58) (ca_T_frames_Op S58) fun w h => ?_
       refine wpList_nil ?_
       replace h : Fit z (sepL (ob50 b6 S58 :: ob50 b5 S58 :: ob103 B0 S50 caq52 ccq53 caq54 ccq55 :: ro2 caq52 ccq53 S50.cell :: ro96 caq54 ccq55 S50.log :: L)) _ := h
       refine then_normal ?_
       refine wp_ret ?_
       refine end_retC (cs := cl_T_frames_Op S58) rfl hr (by kernel_rfl) (by kernel_rfl) (by kernel_rfl) (h.held 0 rfl) ?_
       replace h : Fit z (sepL (ob103 B0 S50 caq52 ccq53 caq54 ccq55 :: ro2 caq52 ccq53 S50.cell :: ro96 caq54 ccq55 S50.log :: L)) _ := h.sel 5 [2, 3, 4] (by kernel_rfl) (by kernel_rfl)
       obtain ⟨rfl, rfl⟩ := ej2 H
       exact ⟨caq52, ccq53, caq54, ccq55, rfl, h⟩
     ·
      replace H := ifF c47 H
      refine cond_ff hr (beq_eq_false_iff_ne.mpr c47) ?_
      refine sr ?_
      refine oo [13, 12] [vB (p1.kind == 4), vB (p1.kind == 4)] hr fun a hr => ?_
      refine ln ?_
      by_cases c60 : p1.kind = 4
      ·
       replace H := ifT c60 H
       refine cond_tt hr (beq_iff_eq.mpr c60) ?_
       refine sr ?_
       refine o1 hr (.func (.func 85) #[] #[]) fun a hr => ?_
       refine ln ?_
       refine wp_ret ?_
       refine blk_ret ?_
       refine then_ret ?_
       refine end_ret1 (v := .func (.func 85) #[] #[]) rfl hr (by kernel_rfl) ?_
       refine ⟨_, rfl, ?_⟩; clear hr a; intro a hr
       obtain ⟨r61, S62, S63, e64, H⟩ := bd3 H
       refine o1 hr (.iface 26 (pA B0 0)) fun a hr => ?_
       replace h : Fit z (sepL (ob50 b5 p1 :: ob103 B0 p0 ca1 cc2 ca3 cc4 :: ro2 ca1 cc2 p0.cell :: ro96 ca3 cc4 p0.log :: pts b6 (.cells #[vI 0, vI 0, vI 0, vI 0, vI 0, vI 0, vI 0, vI 0, vI 0] 50) :: L)) _ := h.sel 5 [1, 2, 3, 4, 0] (by kernel_rfl) (by kernel_rfl)
       have hc := frames_Op_start_iface_ok (H := e64) (h := h)
       refine cl (wn rfl) hr hc ?_; clear hc h
       rintro _ w ⟨caq65, ccq66, caq67, ccq68, rfl, h⟩; refine ⟨_, rfl, fun a hr => ?_⟩
       refine o1 hr (vI r61) fun a hr => ?_
       refine ln ?_
       refine sr ?_
       refine oo [21, 22] [vI r61, vB (r61 != 0)] hr fun a hr => ?_
       refine ln ?_
       by_cases c69 : r61 = 0
       ·
        replace H := ifT c69 H
        refine cond_ff hr (bne_eq_false_iff_eq.mpr c69) ?_
        refine sr ?_
        refine oo [25, 26] [pA b5 0, pA b5 3] hr fun a hr => ?_
        refine ld (wn rfl) hr (vI S62.head_stands) (h.cell 3 rfl) fun a hr => ?_
        refine o1 hr (vB (decide (S62.head_stands > 0))) fun a hr => ?_
        refine ln ?_
        by_cases c70 : S62.head_stands > 0
        ·
         replace H := ifT c70 H
         refine cond_tt hr (decide_eq_true c70) ?_
         refine wp_region_lit ?_
         refine oo [29, 30] [pA b5 0, pA b5 3] hr fun a hr => ?_
         refine ld (wn rfl) hr (vI S62.head_stands) (h.cell 3 rfl) fun a hr => ?_
         refine oo [32, 33, 34] [vI (wi (S62.head_stands + 1)), pA b5 0, pA b5 3] hr fun a hr => ?_
         refine sto (wn rfl) hr h 3 (vI (wi (S62.head_stands + 1))) fun w h => ?_
         refine wpList_nil ?_
         replace h : Fit z (sepL (pts b5 (.cells #[vI S62.head_t_Base, vI S62.head_t_Frames, vI S62.head_frame, vI (wi (S62.head_stands + 1)), vI S62.head_code, vI S62.head_v, vI S62.kind, vI S62.slot, vI S62.give] 50) :: ob103 B0 S63 caq65 ccq66 caq67 ccq68 :: ro2 caq65 ccq66 S63.cell :: ro96 caq67 ccq68 S63.log :: pts b6 (.cells #[vI 0, vI 0, vI 0, vI 0, vI 0, vI 0, vI 0, vI 0, vI 0] 50) :: L)) _ := h
         refine then_normal ?_
         refine sr ?_
         refine ldm (wn rfl) hr (.agg #[vI S62.head_t_Base, vI S62.head_t_Frames, vI S62.head_frame, vI (wi (S62.head_stands + 1)), vI S62.head_code, vI S62.head_v, vI S62.kind, vI S62.slot, vI S62.give]) (cs := [vI S62.head_t_Base, vI S62.head_t_Frames, vI S62.head_frame, vI (wi (S62.head_stands + 1)), vI S62.head_code, vI S62.head_v, vI S62.kind, vI S62.slot, vI S62.give]) (h.held 0 rfl) fun a hr => ?_
         replace h : Fit z (sepL (pts b6 (.cells #[vI 0, vI 0, vI 0, vI 0, vI 0, vI 0, vI 0, vI 0, vI 0] 50) :: pts b5 (.cells #[vI S62.head_t_Base, vI S62.head_t_Frames, vI S62.head_frame, vI (wi (S62.head_stands + 1)), vI S62.head_code, vI S62.head_v, vI S62.kind, vI S62.slot, vI S62.give] 50) :: ob103 B0 S63 caq65 ccq66 caq67 ccq68 :: ro2 caq65 ccq66 S63.cell :: ro96 caq67 ccq68 S63.log :: L)) _ := h.sel 5 [4, 0, 1, 2, 3] (by kernel_rfl) (by kernel_rfl)
         refine stos (wn rfl) hr h 0 ([vI S62.head_t_Base, vI S62.head_t_Frames, vI S62.head_frame, vI (wi (S62.head_stands + 1)), vI S62.head_code, vI S62.head_v, vI S62.kind, vI S62.slot, vI S62.give]) (#[vI S62.head_t_Base, vI S62.head_t_Frames, vI S62.head_frame, vI (wi (S62.head_stands + 1)), vI S62.head_code, vI S62.head_v, vI S62.kind, vI S62.slot, vI S62.give]) fun w h => ?_
         refine wpList_nil ?_
         replace h : Fit z (sepL (pts b6 (.cells #[vI S62.head_t_Base, vI S62.head_t_Frames, vI S62.head_frame, vI (wi (S62.head_stands + 1)), vI S62.head_code, vI S62.head_v, vI S62.kind, vI S62.slot, vI S62.give] 50) :: pts b5 (.cells #[vI S62.head_t_Base, vI S62.head_t_Frames, vI S62.head_frame, vI (wi (S62.head_stands + 1)), vI S62.head_code, vI S62.head_v, vI S62.kind, vI S62.slot, vI S62.give] 50) :: ob103 B0 S63 caq65 ccq66 caq67 ccq68 :: ro2 caq65 ccq66 S63.cell :: ro96 caq67 ccq68 S63.log :: L)) _ := h
         refine then_normal ?_
         refine wp_ret ?_
         refine end_retC (cs := [vI S62.head_t_Base, vI S62.head_t_Frames, vI S62.head_frame, vI (wi (S62.head_stands + 1)), vI S62.head_code, vI S62.head_v, vI S62.kind, vI S62.slot, vI S62.give]) rfl hr (by kernel_rfl) (by kernel_rfl) (by kernel_rfl) (h.held 0 rfl) ?_
         replace h : Fit z (sepL (ob103 B0 S63 caq65 ccq66 caq67 ccq68 :: ro2 caq65 ccq66 S63.cell :: ro96 caq67 ccq68 S63.log :: L)) _ := h.sel 5 [2, 3, 4] (by kernel_rfl) (by kernel_rfl)
         obtain ⟨rfl, rfl⟩ := ej2 H
         exact ⟨caq65, ccq66, caq67, ccq68, rfl, h⟩
        ·
         replace H := ifF c70 H
         refine cond_ff hr (decide_eq_false c70) ?_
         refine wp_skip ?_
         refine then_normal ?_
         refine sr ?_
         refine ldm (wn rfl) hr (ag_T_frames_Op S62) (cs := cl_T_frames_Op S62) (h.held 0 rfl) fun a hr => ?_
         replace h : Fit z (sepL (pts b6 (.cells #[vI 0, vI 0, vI 0, vI 0, vI 0, vI 0, vI 0, vI 0, vI 0] 50) :: ob50 b5 S62 :: ob103 B0 S63 caq65 ccq66 caq67 ccq68 :: ro2 caq65 ccq66 S63.cell :: ro96 caq67 ccq68 S63.log :: L)) _ := h.sel 5 [4, 0, 1, 2, 3] (by kernel_rfl) (by kernel_rfl)
         refine stos (wn rfl) hr h 0 (cl_T_frames_Op S62) (ca_T_frames_Op S62) fun w h => ?_
         refine wpList_nil ?_
         replace h : Fit z (sepL (ob50 b6 S62 :: ob50 b5 S62 :: ob103 B0 S63 caq65 ccq66 caq67 ccq68 :: ro2 caq65 ccq66 S63.cell :: ro96 caq67 ccq68 S63.log :: L)) _ := h
         refine then_normal ?_
         refine wp_ret ?_
         refine end_retC (cs := cl_T_frames_Op S62) rfl hr (by kernel_rfl) (by kernel_rfl) (by kernel_rfl) (h.held 0 rfl) ?_
         replace h : Fit z (sepL (ob103 B0 S63 caq65 ccq66 caq67 ccq68 :: ro2 caq65 ccq66 S63.cell :: ro96 caq67 ccq68 S63.log :: L)) _ := h.sel 5 [2, 3, 4] (by kernel_rfl) (by kernel_rfl)
         obtain ⟨rfl, rfl⟩ := ej2 H
         exact ⟨caq65, ccq66, caq67, ccq68, rfl, h⟩
       ·
        replace H := ifF c69 H
        refine cond_tt hr (bne_iff_ne.mpr c69) ?_
        refine wp_region_lit ?_
        obtain ⟨S71, e72, H⟩ := bd1 H
        refine o1 hr (pA b5 0) fun a hr => ?_
        have hc := frames_head_end_ok (H := e72) (h := h)
        refine cl (wn rfl) hr hc ?_; clear hc h
        rintro _ w ⟨rfl, h⟩; refine ⟨_, rfl, fun a hr => ?_⟩
        refine ln ?_
        refine sr ?_
        refine ldm (wn rfl) hr (ag_T_frames_Op S71) (cs := cl_T_frames_Op S71) (h.held 0 rfl) fun a hr => ?_
        replace h : Fit z (sepL (pts b6 (.cells #[vI 0, vI 0, vI 0, vI 0, vI 0, vI 0, vI 0, vI 0, vI 0] 50) :: ob50 b5 S71 :: ob103 B0 S63 caq65 ccq66 caq67 ccq68 :: ro2 caq65 ccq66 S63.cell :: ro96 caq67 ccq68 S63.log :: L)) _ := h.sel 5 [4, 0, 1, 2, 3] (by kernel_rfl) (by kernel_rfl)
        refine stos (wn rfl) hr h 0 (cl_T_frames_Op S71) (ca_T_frames_Op S71) fun w h => ?_
        refine wpList_nil ?_
        replace h : Fit z (sepL (ob50 b6 S71 :: ob50 b5 S71 :: ob103 B0 S63 caq65 ccq66 caq67 ccq68 :: ro2 caq65 ccq66 S63.cell :: ro96 caq67 ccq68 S63.log :: L)) _ := h
        refine then_normal ?_
        refine wp_ret ?_
        refine end_retC (cs := cl_T_frames_Op S71) rfl hr (by kernel_rfl) (by kernel_rfl) (by kernel_rfl) (h.held 0 rfl) ?_
        replace h : Fit z (sepL (ob103 B0 S63 caq65 ccq66 caq67 ccq68 :: ro2 caq65 ccq66 S63.cell :: ro96 caq67 ccq68 S63.log :: L)) _ := h.sel 5 [2, 3, 4] (by kernel_rfl) (by kernel_rfl)
        obtain ⟨rfl, rfl⟩ := ej2 H
        exact ⟨caq65, ccq66, caq67, ccq68, rfl, h⟩
      ·
       replace H := ifF c60 H
       refine cond_ff hr (beq_eq_false_iff_ne.mpr c60) ?_
       refine wp_skip ?_
       refine blk_normal ?_
       refine then_normal ?_
       refine sr ?_
       refine o1 hr (.func (.func 86) #[] #[]) fun a hr => ?_
       refine ln ?_
       refine wp_ret ?_
       refine end_ret1 (v := .func (.func 86) #[] #[]) rfl hr (by kernel_rfl) ?_
       refine ⟨_, rfl, ?_⟩; clear hr a; intro a hr
       obtain ⟨r73, S74, S75, e76, H⟩ := bd3 H
       refine o1 hr (.iface 26 (pA B0 0)) fun a hr => ?_
       replace h : Fit z (sepL (ob50 b5 p1 :: ob103 B0 p0 ca1 cc2 ca3 cc4 :: ro2 ca1 cc2 p0.cell :: ro96 ca3 cc4 p0.log :: pts b6 (.cells #[vI 0, vI 0, vI 0, vI 0, vI 0, vI 0, vI 0, vI 0, vI 0] 50) :: L)) _ := h.sel 5 [1, 2, 3, 4, 0] (by kernel_rfl) (by kernel_rfl)
       have hc := frames_Op_fetch_iface_ok (H := e76) (h := h)
       refine cl (wn rfl) hr hc ?_; clear hc h
       rintro _ w ⟨caq77, ccq78, caq79, ccq80, rfl, h⟩; refine ⟨_, rfl, fun a hr => ?_⟩
       refine o1 hr (vI r73) fun a hr => ?_
       refine ln ?_
       refine sr ?_
       refine oo [21, 22] [vI r73, vB (r73 != 0)] hr fun a hr => ?_
       refine ln ?_
       by_cases c81 : r73 = 0
       ·
        replace H := ifT c81 H
        refine cond_ff hr (bne_eq_false_iff_eq.mpr c81) ?_
        refine sr ?_
        refine oo [25, 26] [pA b5 0, pA b5 3] hr fun a hr => ?_
        refine ld (wn rfl) hr (vI S74.head_stands) (h.cell 3 rfl) fun a hr => ?_
        refine o1 hr (vB (decide (S74.head_stands > 0))) fun a hr => ?_
        refine ln ?_
        by_cases c82 : S74.head_stands > 0
        ·
         replace H := ifT c82 H
         refine cond_tt hr (decide_eq_true c82) ?_
         refine wp_region_lit ?_
         refine oo [29, 30] [pA b5 0, pA b5 3] hr fun a hr => ?_
         refine ld (wn rfl) hr (vI S74.head_stands) (h.cell 3 rfl) fun a hr => ?_
         refine oo [32, 33, 34] [vI (wi (S74.head_stands + 1)), pA b5 0, pA b5 3] hr fun a hr => ?_
         refine sto (wn rfl) hr h 3 (vI (wi (S74.head_stands + 1))) fun w h => ?_
         refine wpList_nil ?_
         replace h : Fit z (sepL (pts b5 (.cells #[vI S74.head_t_Base, vI S74.head_t_Frames, vI S74.head_frame, vI (wi (S74.head_stands + 1)), vI S74.head_code, vI S74.head_v, vI S74.kind, vI S74.slot, vI S74.give] 50) :: ob103 B0 S75 caq77 ccq78 caq79 ccq80 :: ro2 caq77 ccq78 S75.cell :: ro96 caq79 ccq80 S75.log :: pts b6 (.cells #[vI 0, vI 0, vI 0, vI 0, vI 0, vI 0, vI 0, vI 0, vI 0] 50) :: L)) _ := h
         refine then_normal ?_
         refine sr ?_
         refine ldm (wn rfl) hr (.agg #[vI S74.head_t_Base, vI S74.head_t_Frames, vI S74.head_frame, vI (wi (S74.head_stands + 1)), vI S74.head_code, vI S74.head_v, vI S74.kind, vI S74.slot, vI S74.give]) (cs := [vI S74.head_t_Base, vI S74.head_t_Frames, vI S74.head_frame, vI (wi (S74.head_stands + 1)), vI S74.head_code, vI S74.head_v, vI S74.kind, vI S74.slot, vI S74.give]) (h.held 0 rfl) fun a hr => ?_
         replace h : Fit z (sepL (pts b6 (.cells #[vI 0, vI 0, vI 0, vI 0, vI 0, vI 0, vI 0, vI 0, vI 0] 50) :: pts b5 (.cells #[vI S74.head_t_Base, vI S74.head_t_Frames, vI S74.head_frame, vI (wi (S74.head_stands + 1)), vI S74.head_code, vI S74.head_v, vI S74.kind, vI S74.slot, vI S74.give] 50) :: ob103 B0 S75 caq77 ccq78 caq79 ccq80 :: ro2 caq77 ccq78 S75.cell :: ro96 caq79 ccq80 S75.log :: L)) _ := h.sel 5 [4, 0, 1, 2, 3] (by kernel_rfl) (by kernel_rfl)
         refine stos (wn rfl) hr h 0 ([vI S74.head_t_Base, vI S74.head_t_Frames, vI S74.head_frame, vI (wi (S74.head_stands + 1)), vI S74.head_code, vI S74.head_v, vI S74.kind, vI S74.slot, vI S74.give]) (#[vI S74.head_t_Base, vI S74.head_t_Frames, vI S74.head_frame, vI (wi (S74.head_stands + 1)), vI S74.head_code, vI S74.head_v, vI S74.kind, vI S74.slot, vI S74.give]) fun w h => ?_
         refine wpList_nil ?_
         replace h : Fit z (sepL (pts b6 (.cells #[vI S74.head_t_Base, vI S74.head_t_Frames, vI S74.head_frame, vI (wi (S74.head_stands + 1)), vI S74.head_code, vI S74.head_v, vI S74.kind, vI S74.slot, vI S74.give] 50) :: pts b5 (.cells #[vI S74.head_t_Base, vI S74.head_t_Frames, vI S74.head_frame, vI (wi (S74.head_stands + 1)), vI S74.head_code, vI S74.head_v, vI S74.kind, vI S74.slot, vI S74.give] 50) :: ob103 B0 S75 caq77 ccq78 caq79 ccq80 :: ro2 caq77 ccq78 S75.cell :: ro96 caq79 ccq80 S75.log :: L)) _ := h
         refine then_normal ?_
         refine wp_ret ?_
         refine end_retC (cs := [vI S74.head_t_Base, vI S74.head_t_Frames, vI S74.head_frame, vI (wi (S74.head_stands + 1)), vI S74.head_code, vI S74.head_v, vI S74.kind, vI S74.slot, vI S74.give]) rfl hr (by kernel_rfl) (by kernel_rfl) (by kernel_rfl) (h.held 0 rfl) ?_
         replace h : Fit z (sepL (ob103 B0 S75 caq77 ccq78 caq79 ccq80 :: ro2 caq77 ccq78 S75.cell :: ro96 caq79 ccq80 S75.log :: L)) _ := h.sel 5 [2, 3, 4] (by kernel_rfl) (by kernel_rfl)
         obtain ⟨rfl, rfl⟩ := ej2 H
         exact ⟨caq77, ccq78, caq79, ccq80, rfl, h⟩
        ·
         replace H := ifF c82 H
         refine cond_ff hr (decide_eq_false c82) ?_
         refine wp_skip ?_
         refine then_normal ?_
         refine sr ?_
         refine ldm (wn rfl) hr (ag_T_frames_Op S74) (cs := cl_T_frames_Op S74) (h.held 0 rfl) fun a hr => ?_
         replace h : Fit z (sepL (pts b6 (.cells #[vI 0, vI 0, vI 0, vI 0, vI 0, vI 0, vI 0, vI 0, vI 0] 50) :: ob50 b5 S74 :: ob103 B0 S75 caq77 ccq78 caq79 ccq80 :: ro2 caq77 ccq78 S75.cell :: ro96 caq79 ccq80 S75.log :: L)) _ := h.sel 5 [4, 0, 1, 2, 3] (by kernel_rfl) (by kernel_rfl)
         refine stos (wn rfl) hr h 0 (cl_T_frames_Op S74) (ca_T_frames_Op S74) fun w h => ?_
         refine wpList_nil ?_
         replace h : Fit z (sepL (ob50 b6 S74 :: ob50 b5 S74 :: ob103 B0 S75 caq77 ccq78 caq79 ccq80 :: ro2 caq77 ccq78 S75.cell :: ro96 caq79 ccq80 S75.log :: L)) _ := h
         refine then_normal ?_
         refine wp_ret ?_
         refine end_retC (cs := cl_T_frames_Op S74) rfl hr (by kernel_rfl) (by kernel_rfl) (by kernel_rfl) (h.held 0 rfl) ?_
         replace h : Fit z (sepL (ob103 B0 S75 caq77 ccq78 caq79 ccq80 :: ro2 caq77 ccq78 S75.cell :: ro96 caq79 ccq80 S75.log :: L)) _ := h.sel 5 [2, 3, 4] (by kernel_rfl) (by kernel_rfl)
         obtain ⟨rfl, rfl⟩ := ej2 H
         exact ⟨caq77, ccq78, caq79, ccq80, rfl, h⟩
       ·
        replace H := ifF c81 H
        refine cond_tt hr (bne_iff_ne.mpr c81) ?_
        refine wp_region_lit ?_
        obtain ⟨S83, e84, H⟩ := bd1 H
        refine o1 hr (pA b5 0) fun a hr => ?_
        have hc := frames_head_end_ok (H := e84) (h := h)
        refine cl (wn rfl) hr hc ?_; clear hc h
        rintro _ w ⟨rfl, h⟩; refine ⟨_, rfl, fun a hr => ?_⟩
        refine ln ?_
        refine sr ?_
        refine ldm (wn rfl) hr (ag_T_frames_Op S83) (cs := cl_T_frames_Op S83) (h.held 0 rfl) fun a hr => ?_
        replace h : Fit z (sepL (pts b6 (.cells #[vI 0, vI 0, vI 0, vI 0, vI 0, vI 0, vI 0, vI 0, vI 0] 50) :: ob50 b5 S83 :: ob103 B0 S75 caq77 ccq78 caq79 ccq80 :: ro2 caq77 ccq78 S75.cell :: ro96 caq79 ccq80 S75.log :: L)) _ := h.sel 5 [4, 0, 1, 2, 3] (by kernel_rfl) (by kernel_rfl)
        refine stos (wn rfl) hr h 0 (cl_T_frames_Op S83) (ca_T_frames_Op S83) fun w h => ?_
        refine wpList_nil ?_
        replace h : Fit z (sepL (ob50 b6 S83 :: ob50 b5 S83 :: ob103 B0 S75 caq77 ccq78 caq79 ccq80 :: ro2 caq77 ccq78 S75.cell :: ro96 caq79 ccq80 S75.log :: L)) _ := h
        refine then_normal ?_
        refine wp_ret ?_
        refine end_retC (cs := cl_T_frames_Op S83) rfl hr (by kernel_rfl) (by kernel_rfl) (by kernel_rfl) (h.held 0 rfl) ?_
        replace h : Fit z (sepL (ob103 B0 S75 caq77 ccq78 caq79 ccq80 :: ro2 caq77 ccq78 S75.cell :: ro96 caq79 ccq80 S75.log :: L)) _ := h.sel 5 [2, 3, 4] (by kernel_rfl) (by kernel_rfl)
        obtain ⟨rfl, rfl⟩ := ej2 H
        exact ⟨caq77, ccq78, caq79, ccq80, rfl, h⟩

/-- plunder/frames.Answer -/
def frames_Answer (p0 : T_frames_Op) : Option (Int × Int) :=
  (if p0 = (⟨0, 0, 0, 0, 0, 0, 0, 0, 0⟩ : T_frames_Op) then some (1, 0) else (if p0.head_stands > 0 then some (0, 0) else some (p0.head_code, p0.head_v)))

set_option maxRecDepth 100000 in
set_option maxHeartbeats 4000000 in
theorem frames_Answer_ok {z w : World} {L : List HProp} {p0 : T_frames_Op} {r0 : Int} {r1 : Int} (H : frames_Answer p0 = some (r0, r1)) (h : Fit z (sepL (L)) w)  :
    Calls Try.prog 26 #[ag_T_frames_Op p0] w fun e w => e = .returned (.tuple #[vI r0, vI r1]) ∧ Fit z (sepL (L)) w := by
 unfold frames_Answer at H
 refine enter Try.func26 rfl 17 rfl rfl [(0, ag_T_frames_Op p0)] ⟨rfl, trivial⟩ ?_
 intro j a hr
 refine sr ?_
 refine onew (wn rfl) hr h nb (ca_T_frames_Op p0) 50 fun b1 w a h hr => ?_
 refine oo [2, 3] [vI 0, vI 0] hr fun a hr => ?_
 refine ln ?_
 refine wp_seq ?_
 refine sr ?_
 refine ldm (wn rfl) hr (ag_T_frames_Op p0) (cs := cl_T_frames_Op p0) (h.held 0 rfl) fun a hr => ?_
 refine o1 hr (.agg #[vI 0, vI 0, vI 0, vI 0, vI 0, vI 0, vI 0, vI 0, vI 0]) fun a hr => ?_
 refine opv (wn rfl) hr (vB (decide (p0 = (⟨0, 0, 0, 0, 0, 0, 0, 0, 0⟩ : T_frames_Op)))) (rb (reqd rfl (by kernel_rfl) (by kernel_rfl) (by kernel_rfl) (by kernel_rfl) (by kernel_rfl) (by kernel_rfl)) (eq_T_frames_Op p0 (⟨0, 0, 0, 0, 0, 0, 0, 0, 0⟩ : T_frames_Op))) fun a hr => ?_
 refine ln ?_
 by_cases c2 : p0 = (⟨0, 0, 0, 0, 0, 0, 0, 0, 0⟩ : T_frames_Op)
 ·
  replace H := ifT c2 H
  refine cond_tt hr (decide_eq_true c2) ?_
  refine sr ?_
  refine oo [2, 3] [vI 1, vI 0] hr fun a hr => ?_
  refine ln ?_
  refine wp_ret ?_
  refine then_ret ?_
  refine end_ret2 (v := vI 1) (v' := vI 0) rfl hr (by kernel_rfl) (by kernel_rfl) ?_
  replace h : Fit z (sepL (L)) _ := h.sel 1 [] (by kernel_rfl) (by kernel_rfl)
  obtain ⟨rfl, rfl⟩ := ej2 H
  exact ⟨rfl, h⟩
 ·
  replace H := ifF c2 H
  refine cond_ff hr (decide_eq_false c2) ?_
  refine wp_skip ?_
  refine then_normal ?_
  refine wp_seq ?_
  refine sr ?_
  refine oo [7, 8] [pA b1 0, pA b1 3] hr fun a hr => ?_
  refine ld (wn rfl) hr (vI p0.head_stands) (h.cell 3 rfl) fun a hr => ?_
  refine o1 hr (vB (decide (p0.head_stands > 0))) fun a hr => ?_
  refine ln ?_
  by_cases c3 : p0.head_stands > 0
  ·
   replace H := ifT c3 H
   refine cond_tt hr (decide_eq_true c3) ?_
   refine sr ?_
   refine oo [2, 3] [vI 0, vI 0] hr fun a hr => ?_
   refine ln ?_
   refine wp_ret ?_
   refine then_ret ?_
   refine end_ret2 (v := vI 0) (v' := vI 0) rfl hr (by kernel_rfl) (by kernel_rfl) ?_
   replace h : Fit z (sepL (L)) _ := h.sel 1 [] (by kernel_rfl) (by kernel_rfl)
   obtain ⟨rfl, rfl⟩ := ej2 H
   exact ⟨rfl, h⟩
  ·
   replace H := ifF c3 H
   refine cond_ff hr (decide_eq_false c3) ?_
   refine wp_skip ?_
   refine then_normal ?_
   refine wp_seq ?_
   refine reg_E (fun w => heldC w b1 4 ([vI p0.head_code]) ∧ heldC w b1 5 ([vI p0.head_v]) ∧ True) [0, 1, 3, 4] h (by kernel_rfl) ?_; intro w h
   change wpAnyE _ _ _ _ _ _ 8 (Array.replicate 8 false) a w
   have hgo : ∀ w w', CellsGo w w' → (heldC w b1 4 ([vI p0.head_code]) ∧ heldC w b1 5 ([vI p0.head_v]) ∧ True) → heldC w' b1 4 ([vI p0.head_code]) ∧ heldC w' b1 5 ([vI p0.head_v]) ∧ True := fun w w' g hD => ⟨heldC_go _ _ _ _ _ g hD.1, heldC_go _ _ _ _ _ g hD.2.1, trivial⟩
   refine evDs hgo ⟨⟨h.cell 4 rfl, trivial⟩, ⟨h.cell 5 rfl, trivial⟩, trivial⟩ 7 0 rfl (wn rfl) hr (pA b1 0) fun a hr => ?_
   refine evDs hgo ⟨⟨h.cell 4 rfl, trivial⟩, ⟨h.cell 5 rfl, trivial⟩, trivial⟩ 6 1 rfl (wn rfl) hr (pA b1 4) fun a hr => ?_
   refine evDs hgo ⟨⟨h.cell 4 rfl, trivial⟩, ⟨h.cell 5 rfl, trivial⟩, trivial⟩ 5 3 rfl (wn rfl) hr (pA b1 0) fun a hr => ?_
   refine evDs hgo ⟨⟨h.cell 4 rfl, trivial⟩, ⟨h.cell 5 rfl, trivial⟩, trivial⟩ 4 4 rfl (wn rfl) hr (pA b1 5) fun a hr => ?_
   refine el [0, 1, 3, 4] (b := b1) (off := 4) (cs := [vI p0.head_code]) (fun _ hk => ⟨hk, fun w hD => hD.1⟩) 3 2 rfl (by kernel_rfl) (wn rfl) hr (vI p0.head_code) ⟨h.cell 4 rfl, trivial⟩ (fun w hc => rl rfl (by kernel_rfl) (by kernel_rfl) hc.1) fun a hr => ?_
   refine evs 2 6 rfl (wn rfl) hr (vI p0.head_code) fun a hr => ?_
   refine el [0, 1, 3, 4] (b := b1) (off := 5) (cs := [vI p0.head_v]) (fun _ hk => ⟨hk, fun w hD => hD.2.1⟩) 1 5 rfl (by kernel_rfl) (wn rfl) hr (vI p0.head_v) ⟨h.cell 5 rfl, trivial⟩ (fun w hc => rl rfl (by kernel_rfl) (by kernel_rfl) hc.1) fun a hr => ?_
   refine evs 0 7 rfl (wn rfl) hr (vI p0.head_v) fun a hr => ?_
   refine e_end (by kernel_rfl) ?_
   refine then_normal ?_
   refine wp_ret ?_
   refine end_ret2 (v := vI p0.head_code) (v' := vI p0.head_v) rfl hr (by kernel_rfl) (by kernel_rfl) ?_
   replace h : Fit z (sepL (L)) _ := h.sel 1 [] (by kernel_rfl) (by kernel_rfl)
   obtain ⟨rfl, rfl⟩ := ej2 H
   exact ⟨rfl, h⟩

/-- (*plunder/frames.join).fork -/
def frames_join_fork (p0 : T_frames_join) (p0_arena : T_cells_Arena) (p0_rounds : List Int) (p1 : T_frames_actor) : Option (T_frames_actor) :=
  if inr_ p0.round p0_rounds.length then (if p1.at_ ≥ (at_ p0_rounds p0.round.toNat) then some ({ p1 with about := 4 }) else some ({ p1 with about := 2 })) else none

set_option maxRecDepth 100000 in
set_option maxHeartbeats 4000000 in
theorem frames_join_fork_ok {z w : World} {L : List HProp} {p0 : T_frames_join} {p0_arena : T_cells_Arena} {p0_rounds : List Int} {p1 : T_frames_actor} {B0 : Nat} {B0_arena : Nat} {ca1 : Option Addr} {cc2 : Nat} {ca3 : Option Addr} {cc4 : Nat} {va0_rounds : Option Addr} {vc0_rounds : Nat} {ix0_live : Nat} {cs0_live : List Value} {ca5 : Option Addr} {cc6 : Nat} {ca7 : Option Addr} {cc8 : Nat} {ca9 : Option Addr} {cc10 : Nat} {ca11 : Option Addr} {cc12 : Nat} {ca13 : Option Addr} {cc14 : Nat} {B1 : Nat} {q1 : T_frames_actor} (H : frames_join_fork p0 p0_arena p0_rounds p1 = some q1) (h : Fit z (sepL (ob133 B0 p0 (pA B0_arena 0) (.slice va0_rounds p0_rounds.length vc0_rounds) ca5 cc6 ca7 cc8 ca9 cc10 ca11 cc12 ca13 cc14 :: rowH 135 1 own_ptr135 (.slice ca5 p0.live.length cc6) p0.live ix0_live cs0_live :: ro3 ca7 cc8 p0.run_Holders :: rn31 ca9 cc10 p0.run_Reads :: ro2 ca11 cc12 p0.run_Marks :: ro96 ca13 cc14 p0.run_Log :: ob103 B0_arena p0_arena ca1 cc2 ca3 cc4 :: ro2 ca1 cc2 p0_arena.cell :: ro96 ca3 cc4 p0_arena.log :: ob137 B1 p1 :: L)) w) (hv0_rounds : RdRow L 1 encZ_i64 va0_rounds p0_rounds) :
    Calls Try.prog 104 #[pA B0 0, pA B1 0] w fun e w => e = .returned (.tuple #[]) ∧ Fit z (sepL (ob133 B0 p0 (pA B0_arena 0) (.slice va0_rounds p0_rounds.length vc0_rounds) ca5 cc6 ca7 cc8 ca9 cc10 ca11 cc12 ca13 cc14 :: rowH 135 1 own_ptr135 (.slice ca5 p0.live.length cc6) p0.live ix0_live cs0_live :: ro3 ca7 cc8 p0.run_Holders :: rn31 ca9 cc10 p0.run_Reads :: ro2 ca11 cc12 p0.run_Marks :: ro96 ca13 cc14 p0.run_Log :: ob103 B0_arena p0_arena ca1 cc2 ca3 cc4 :: ro2 ca1 cc2 p0_arena.cell :: ro96 ca3 cc4 p0_arena.log :: ob137 B1 q1 :: L)) w := by
 unfold frames_join_fork at H
 refine enter Try.func104 rfl 25 rfl rfl [(0, pA B0 0), (1, pA B1 0)] ⟨rfl, rfl, trivial⟩ ?_
 intro j a hr
 refine sr ?_
 refine oo [4, 5, 6] [pA B1 0, pA B1 0, pA B1 1] hr fun a hr => ?_
 replace h : Fit z (sepL (ob137 B1 p1 :: ob133 B0 p0 (pA B0_arena 0) (.slice va0_rounds p0_rounds.length vc0_rounds) ca5 cc6 ca7 cc8 ca9 cc10 ca11 cc12 ca13 cc14 :: rowH 135 1 own_ptr135 (.slice ca5 p0.live.length cc6) p0.live ix0_live cs0_live :: ro3 ca7 cc8 p0.run_Holders :: rn31 ca9 cc10 p0.run_Reads :: ro2 ca11 cc12 p0.run_Marks :: ro96 ca13 cc14 p0.run_Log :: ob103 B0_arena p0_arena ca1 cc2 ca3 cc4 :: ro2 ca1 cc2 p0_arena.cell :: ro96 ca3 cc4 p0_arena.log :: L)) _ := h.sel 10 [9, 0, 1, 2, 3, 4, 5, 6, 7, 8] (by kernel_rfl) (by kernel_rfl)
 refine sto (wn rfl) hr h 1 (vI 2) fun w h => ?_
 refine wpList_nil ?_
 replace h : Fit z (sepL (pts B1 (.cells #[vI p1.number, vI 2, vI p1.op_head_t_Base, vI p1.op_head_t_Frames, vI p1.op_head_frame, vI p1.op_head_stands, vI p1.op_head_code, vI p1.op_head_v, vI p1.op_kind, vI p1.op_slot, vI p1.op_give, vB p1.inOp, vI p1.frame, vI p1.slot, vI p1.value, vI p1.at_, vB p1.child] 137) :: ob133 B0 p0 (pA B0_arena 0) (.slice va0_rounds p0_rounds.length vc0_rounds) ca5 cc6 ca7 cc8 ca9 cc10 ca11 cc12 ca13 cc14 :: rowH 135 1 own_ptr135 (.slice ca5 p0.live.length cc6) p0.live ix0_live cs0_live :: ro3 ca7 cc8 p0.run_Holders :: rn31 ca9 cc10 p0.run_Reads :: ro2 ca11 cc12 p0.run_Marks :: ro96 ca13 cc14 p0.run_Log :: ob103 B0_arena p0_arena ca1 cc2 ca3 cc4 :: ro2 ca1 cc2 p0_arena.cell :: ro96 ca3 cc4 p0_arena.log :: L)) _ := h
 refine then_normal ?_
 refine wp_seq ?_
 obtain ⟨c15, H⟩ := gd H
 refine reg_E (fun w => heldC w B1 15 ([vI p1.at_]) ∧ heldC w B0 3 ([.slice va0_rounds p0_rounds.length vc0_rounds]) ∧ heldC w B0 4 ([vI p0.round]) ∧ heldC w (blk va0_rounds) (offs va0_rounds + p0.round.toNat * 1) ([vI (at_ p0_rounds p0.round.toNat)]) ∧ True) [1, 2, 5, 6, 9, 10, 12] h (by kernel_rfl) ?_; intro w h
 change wpAnyE _ _ _ _ _ _ 15 (Array.replicate 15 false) a w
 have hgo : ∀ w w', CellsGo w w' → (heldC w B1 15 ([vI p1.at_]) ∧ heldC w B0 3 ([.slice va0_rounds p0_rounds.length vc0_rounds]) ∧ heldC w B0 4 ([vI p0.round]) ∧ heldC w (blk va0_rounds) (offs va0_rounds + p0.round.toNat * 1) ([vI (at_ p0_rounds p0.round.toNat)]) ∧ True) → heldC w' B1 15 ([vI p1.at_]) ∧ heldC w' B0 3 ([.slice va0_rounds p0_rounds.length vc0_rounds]) ∧ heldC w' B0 4 ([vI p0.round]) ∧ heldC w' (blk va0_rounds) (offs va0_rounds + p0.round.toNat * 1) ([vI (at_ p0_rounds p0.round.toNat)]) ∧ True := fun w w' g hD => ⟨heldC_go _ _ _ _ _ g hD.1, heldC_go _ _ _ _ _ g hD.2.1, heldC_go _ _ _ _ _ g hD.2.2.1, heldC_go _ _ _ _ _ g hD.2.2.2.1, trivial⟩
 refine evs 14 0 rfl (wn rfl) hr (pA B1 0) fun a hr => ?_
 refine evDs hgo ⟨⟨h.cell 15 rfl, trivial⟩, ⟨(h.pick 1).cell 3 rfl, trivial⟩, ⟨(h.pick 1).cell 4 rfl, trivial⟩, ⟨hv0_rounds.cell c15 (h.dn 10) 0 rfl, trivial⟩, trivial⟩ 13 1 rfl (wn rfl) hr (pA B1 0) fun a hr => ?_
 refine evDs hgo ⟨⟨h.cell 15 rfl, trivial⟩, ⟨(h.pick 1).cell 3 rfl, trivial⟩, ⟨(h.pick 1).cell 4 rfl, trivial⟩, ⟨hv0_rounds.cell c15 (h.dn 10) 0 rfl, trivial⟩, trivial⟩ 12 2 rfl (wn rfl) hr (pA B1 15) fun a hr => ?_
 refine evs 11 4 rfl (wn rfl) hr (pA B0 0) fun a hr => ?_
 refine evDs hgo ⟨⟨h.cell 15 rfl, trivial⟩, ⟨(h.pick 1).cell 3 rfl, trivial⟩, ⟨(h.pick 1).cell 4 rfl, trivial⟩, ⟨hv0_rounds.cell c15 (h.dn 10) 0 rfl, trivial⟩, trivial⟩ 10 5 rfl (wn rfl) hr (pA B0 0) fun a hr => ?_
 refine evDs hgo ⟨⟨h.cell 15 rfl, trivial⟩, ⟨(h.pick 1).cell 3 rfl, trivial⟩, ⟨(h.pick 1).cell 4 rfl, trivial⟩, ⟨hv0_rounds.cell c15 (h.dn 10) 0 rfl, trivial⟩, trivial⟩ 9 6 rfl (wn rfl) hr (pA B0 3) fun a hr => ?_
 refine evs 8 8 rfl (wn rfl) hr (pA B0 0) fun a hr => ?_
 refine evDs hgo ⟨⟨h.cell 15 rfl, trivial⟩, ⟨(h.pick 1).cell 3 rfl, trivial⟩, ⟨(h.pick 1).cell 4 rfl, trivial⟩, ⟨hv0_rounds.cell c15 (h.dn 10) 0 rfl, trivial⟩, trivial⟩ 7 9 rfl (wn rfl) hr (pA B0 0) fun a hr => ?_
 refine evDs hgo ⟨⟨h.cell 15 rfl, trivial⟩, ⟨(h.pick 1).cell 3 rfl, trivial⟩, ⟨(h.pick 1).cell 4 rfl, trivial⟩, ⟨hv0_rounds.cell c15 (h.dn 10) 0 rfl, trivial⟩, trivial⟩ 6 10 rfl (wn rfl) hr (pA B0 4) fun a hr => ?_
 refine el [1, 2, 5, 6, 9, 10, 12] (b := B1) (off := 15) (cs := [vI p1.at_]) (fun _ hk => ⟨hk, fun w hD => hD.1⟩) 5 3 rfl (by kernel_rfl) (wn rfl) hr (vI p1.at_) ⟨h.cell 15 rfl, trivial⟩ (fun w hc => rl rfl (by kernel_rfl) (by kernel_rfl) hc.1) fun a hr => ?_
 refine el [1, 2, 5, 6, 9, 10, 12] (b := B0) (off := 3) (cs := [.slice va0_rounds p0_rounds.length vc0_rounds]) (fun _ hk => ⟨hk, fun w hD => hD.2.1⟩) 4 7 rfl (by kernel_rfl) (wn rfl) hr (.slice va0_rounds p0_rounds.length vc0_rounds) ⟨(h.pick 1).cell 3 rfl, trivial⟩ (fun w hc => rl rfl (by kernel_rfl) (by kernel_rfl) hc.1) fun a hr => ?_
 refine el [1, 2, 5, 6, 9, 10, 12] (b := B0) (off := 4) (cs := [vI p0.round]) (fun _ hk => ⟨hk, fun w hD => hD.2.2.1⟩) 3 11 rfl (by kernel_rfl) (wn rfl) hr (vI p0.round) ⟨(h.pick 1).cell 4 rfl, trivial⟩ (fun w hc => rl rfl (by kernel_rfl) (by kernel_rfl) hc.1) fun a hr => ?_
 refine evD hgo ⟨⟨h.cell 15 rfl, trivial⟩, ⟨(h.pick 1).cell 3 rfl, trivial⟩, ⟨(h.pick 1).cell 4 rfl, trivial⟩, ⟨hv0_rounds.cell c15 (h.dn 10) 0 rfl, trivial⟩, trivial⟩ 2 12 rfl (by kernel_rfl) (wn rfl) hr (pA (blk va0_rounds) (offs va0_rounds + p0.round.toNat * 1)) (fun w => ri_rd (k := .i64) (E := 3) (cc := vc0_rounds) rfl (by kernel_rfl) (by kernel_rfl) rfl (by kernel_rfl) (by kernel_rfl) hv0_rounds c15) fun a hr => ?_
 refine el [1, 2, 5, 6, 9, 10, 12] (b := blk va0_rounds) (off := offs va0_rounds + p0.round.toNat * 1) (cs := [vI (at_ p0_rounds p0.round.toNat)]) (fun _ hk => ⟨hk, fun w hD => hD.2.2.2.1⟩) 1 13 rfl (by kernel_rfl) (wn rfl) hr (vI (at_ p0_rounds p0.round.toNat)) ⟨hv0_rounds.cell c15 (h.dn 10) 0 rfl, trivial⟩ (fun w hc => rl rfl (by kernel_rfl) (by kernel_rfl) hc.1) fun a hr => ?_
 refine evs 0 14 rfl (wn rfl) hr (vB (decide (p1.at_ ≥ (at_ p0_rounds p0.round.toNat)))) fun a hr => ?_
 refine e_end (by kernel_rfl) ?_
 refine then_normal ?_
 by_cases c16 : p1.at_ ≥ (at_ p0_rounds p0.round.toNat)
 ·
  replace H := ifT c16 H
  refine cond_tt hr (decide_eq_true c16) ?_
  refine wp_region_lit ?_
  refine oo [22, 23, 24] [pA B1 0, pA B1 0, pA B1 1] hr fun a hr => ?_
  refine sto (wn rfl) hr h 1 (vI 4) fun w h => ?_
  refine wpList_nil ?_
  replace h : Fit z (sepL (pts B1 (.cells #[vI p1.number, vI 4, vI p1.op_head_t_Base, vI p1.op_head_t_Frames, vI p1.op_head_frame, vI p1.op_head_stands, vI p1.op_head_code, vI p1.op_head_v, vI p1.op_kind, vI p1.op_slot, vI p1.op_give, vB p1.inOp, vI p1.frame, vI p1.slot, vI p1.value, vI p1.at_, vB p1.child] 137) :: ob133 B0 p0 (pA B0_arena 0) (.slice va0_rounds p0_rounds.length vc0_rounds) ca5 cc6 ca7 cc8 ca9 cc10 ca11 cc12 ca13 cc14 :: rowH 135 1 own_ptr135 (.slice ca5 p0.live.length cc6) p0.live ix0_live cs0_live :: ro3 ca7 cc8 p0.run_Holders :: rn31 ca9 cc10 p0.run_Reads :: ro2 ca11 cc12 p0.run_Marks :: ro96 ca13 cc14 p0.run_Log :: ob103 B0_arena p0_arena ca1 cc2 ca3 cc4 :: ro2 ca1 cc2 p0_arena.cell :: ro96 ca3 cc4 p0_arena.log :: L)) _ := h
  refine end_norm0 rfl hr ?_
  replace h : Fit z (sepL (ob133 B0 p0 (pA B0_arena 0) (.slice va0_rounds p0_rounds.length vc0_rounds) ca5 cc6 ca7 cc8 ca9 cc10 ca11 cc12 ca13 cc14 :: rowH 135 1 own_ptr135 (.slice ca5 p0.live.length cc6) p0.live ix0_live cs0_live :: ro3 ca7 cc8 p0.run_Holders :: rn31 ca9 cc10 p0.run_Reads :: ro2 ca11 cc12 p0.run_Marks :: ro96 ca13 cc14 p0.run_Log :: ob103 B0_arena p0_arena ca1 cc2 ca3 cc4 :: ro2 ca1 cc2 p0_arena.cell :: ro96 ca3 cc4 p0_arena.log :: pts B1 (.cells #[vI p1.number, vI 4, vI p1.op_head_t_Base, vI p1.op_head_t_Frames, vI p1.op_head_frame, vI p1.op_head_stands, vI p1.op_head_code, vI p1.op_head_v, vI p1.op_kind, vI p1.op_slot, vI p1.op_give, vB p1.inOp, vI p1.frame, vI p1.slot, vI p1.value, vI p1.at_, vB p1.child] 137) :: L)) _ := h.sel 10 [1, 2, 3, 4, 5, 6, 7, 8, 9, 0] (by kernel_rfl) (by kernel_rfl)
  replace H := ej1 H; subst H
  exact ⟨rfl, h⟩
 ·
  replace H := ifF c16 H
  refine cond_ff hr (decide_eq_false c16) ?_
  refine wp_skip ?_
  refine end_norm0 rfl hr ?_
  replace h : Fit z (sepL (ob133 B0 p0 (pA B0_arena 0) (.slice va0_rounds p0_rounds.length vc0_rounds) ca5 cc6 ca7 cc8 ca9 cc10 ca11 cc12 ca13 cc14 :: rowH 135 1 own_ptr135 (.slice ca5 p0.live.length cc6) p0.live ix0_live cs0_live :: ro3 ca7 cc8 p0.run_Holders :: rn31 ca9 cc10 p0.run_Reads :: ro2 ca11 cc12 p0.run_Marks :: ro96 ca13 cc14 p0.run_Log :: ob103 B0_arena p0_arena ca1 cc2 ca3 cc4 :: ro2 ca1 cc2 p0_arena.cell :: ro96 ca3 cc4 p0_arena.log :: pts B1 (.cells #[vI p1.number, vI 2, vI p1.op_head_t_Base, vI p1.op_head_t_Frames, vI p1.op_head_frame, vI p1.op_head_stands, vI p1.op_head_code, vI p1.op_head_v, vI p1.op_kind, vI p1.op_slot, vI p1.op_give, vB p1.inOp, vI p1.frame, vI p1.slot, vI p1.value, vI p1.at_, vB p1.child] 137) :: L)) _ := h.sel 10 [1, 2, 3, 4, 5, 6, 7, 8, 9, 0] (by kernel_rfl) (by kernel_rfl)
  replace H := ej1 H; subst H
  exact ⟨rfl, h⟩

/-- (*plunder/frames.join).enter -/
def frames_join_enter (p0 : T_frames_join) (p0_arena : T_cells_Arena) (p0_rounds : List Int) (p1 : T_frames_actor) : Option (T_frames_join × T_frames_actor) :=
  (if p0.round ≥ ((p0_rounds.length : Nat) : Int) then some ({ p0 with run_Done := true }, p1) else ob1 (frames_join_fork p0 p0_arena p0_rounds ({ p1 with at_ := 0 })) (fun S16 => some (p0, S16)))

set_option maxRecDepth 100000 in
set_option maxHeartbeats 4000000 in
theorem frames_join_enter_ok {z w : World} {L : List HProp} {p0 : T_frames_join} {p0_arena : T_cells_Arena} {p0_rounds : List Int} {p1 : T_frames_actor} {B0 : Nat} {B0_arena : Nat} {ca1 : Option Addr} {cc2 : Nat} {ca3 : Option Addr} {cc4 : Nat} {va0_rounds : Option Addr} {vc0_rounds : Nat} {ix0_live : Nat} {cs0_live : List Value} {ca5 : Option Addr} {cc6 : Nat} {ca7 : Option Addr} {cc8 : Nat} {ca9 : Option Addr} {cc10 : Nat} {ca11 : Option Addr} {cc12 : Nat} {ca13 : Option Addr} {cc14 : Nat} {B1 : Nat} {q0 : T_frames_join} {q1 : T_frames_actor} (H : frames_join_enter p0 p0_arena p0_rounds p1 = some (q0, q1)) (h : Fit z (sepL (ob133 B0 p0 (pA B0_arena 0) (.slice va0_rounds p0_rounds.length vc0_rounds) ca5 cc6 ca7 cc8 ca9 cc10 ca11 cc12 ca13 cc14 :: rowH 135 1 own_ptr135 (.slice ca5 p0.live.length cc6) p0.live ix0_live cs0_live :: ro3 ca7 cc8 p0.run_Holders :: rn31 ca9 cc10 p0.run_Reads :: ro2 ca11 cc12 p0.run_Marks :: ro96 ca13 cc14 p0.run_Log :: ob103 B0_arena p0_arena ca1 cc2 ca3 cc4 :: ro2 ca1 cc2 p0_arena.cell :: ro96 ca3 cc4 p0_arena.log :: ob137 B1 p1 :: L)) w) (hv0_rounds : RdRow L 1 encZ_i64 va0_rounds p0_rounds) :
    Calls Try.prog 103 #[pA B0 0, pA B1 0] w fun e w => ∃ caq0_1 : Option Addr, ∃ ccq0_2 : Nat, ∃ caq0_3 : Option Addr, ∃ ccq0_4 : Nat, ∃ caq0_5 : Option Addr, ∃ ccq0_6 : Nat, ∃ caq0_7 : Option Addr, ∃ ccq0_8 : Nat, ∃ caq0_9 : Option Addr, ∃ ccq0_10 : Nat, e = .returned (.tuple #[]) ∧ Fit z (sepL (ob133 B0 q0 (pA B0_arena 0) (.slice va0_rounds p0_rounds.length vc0_rounds) caq0_1 ccq0_2 caq0_3 ccq0_4 caq0_5 ccq0_6 caq0_7 ccq0_8 caq0_9 ccq0_10 :: rowH 135 1 own_ptr135 (.slice caq0_1 q0.live.length ccq0_2) q0.live ix0_live cs0_live :: ro3 caq0_3 ccq0_4 q0.run_Holders :: rn31 caq0_5 ccq0_6 q0.run_Reads :: ro2 caq0_7 ccq0_8 q0.run_Marks :: ro96 caq0_9 ccq0_10 q0.run_Log :: ob103 B0_arena p0_arena ca1 cc2 ca3 cc4 :: ro2 ca1 cc2 p0_arena.cell :: ro96 ca3 cc4 p0_arena.log :: ob137 B1 q1 :: L)) w := by
 unfold frames_join_enter at H
 refine enter Try.func103 rfl 24 rfl rfl [(0, pA B0 0), (1, pA B1 0)] ⟨rfl, rfl, trivial⟩ ?_
 intro j a hr
 refine wp_seq ?_
 refine wp_seq ?_
 refine reg_E (fun w => heldC w B0 4 ([vI p0.round]) ∧ heldC w B0 3 ([.slice va0_rounds p0_rounds.length vc0_rounds]) ∧ True) [1, 2, 5, 6, 8] h (by kernel_rfl) ?_; intro w h
 change wpAnyE _ _ _ _ _ _ 10 (Array.replicate 10 false) a w
 have hgo : ∀ w w', CellsGo w w' → (heldC w B0 4 ([vI p0.round]) ∧ heldC w B0 3 ([.slice va0_rounds p0_rounds.length vc0_rounds]) ∧ True) → heldC w' B0 4 ([vI p0.round]) ∧ heldC w' B0 3 ([.slice va0_rounds p0_rounds.length vc0_rounds]) ∧ True := fun w w' g hD => ⟨heldC_go _ _ _ _ _ g hD.1, heldC_go _ _ _ _ _ g hD.2.1, trivial⟩
 refine evs 9 0 rfl (wn rfl) hr (pA B0 0) fun a hr => ?_
 refine evDs hgo ⟨⟨h.cell 4 rfl, trivial⟩, ⟨h.cell 3 rfl, trivial⟩, trivial⟩ 8 1 rfl (wn rfl) hr (pA B0 0) fun a hr => ?_
 refine evDs hgo ⟨⟨h.cell 4 rfl, trivial⟩, ⟨h.cell 3 rfl, trivial⟩, trivial⟩ 7 2 rfl (wn rfl) hr (pA B0 4) fun a hr => ?_
 refine evs 6 4 rfl (wn rfl) hr (pA B0 0) fun a hr => ?_
 refine evDs hgo ⟨⟨h.cell 4 rfl, trivial⟩, ⟨h.cell 3 rfl, trivial⟩, trivial⟩ 5 5 rfl (wn rfl) hr (pA B0 0) fun a hr => ?_
 refine evDs hgo ⟨⟨h.cell 4 rfl, trivial⟩, ⟨h.cell 3 rfl, trivial⟩, trivial⟩ 4 6 rfl (wn rfl) hr (pA B0 3) fun a hr => ?_
 refine el [1, 2, 5, 6, 8] (b := B0) (off := 4) (cs := [vI p0.round]) (fun _ hk => ⟨hk, fun w hD => hD.1⟩) 3 3 rfl (by kernel_rfl) (wn rfl) hr (vI p0.round) ⟨h.cell 4 rfl, trivial⟩ (fun w hc => rl rfl (by kernel_rfl) (by kernel_rfl) hc.1) fun a hr => ?_
 refine el [1, 2, 5, 6, 8] (b := B0) (off := 3) (cs := [.slice va0_rounds p0_rounds.length vc0_rounds]) (fun _ hk => ⟨hk, fun w hD => hD.2.1⟩) 2 7 rfl (by kernel_rfl) (wn rfl) hr (.slice va0_rounds p0_rounds.length vc0_rounds) ⟨h.cell 3 rfl, trivial⟩ (fun w hc => rl rfl (by kernel_rfl) (by kernel_rfl) hc.1) fun a hr => ?_
 refine evDs hgo ⟨⟨h.cell 4 rfl, trivial⟩, ⟨h.cell 3 rfl, trivial⟩, trivial⟩ 1 8 rfl (wn rfl) hr (vI ((p0_rounds.length : Nat) : Int)) fun a hr => ?_
 refine evs 0 9 rfl (wn rfl) hr (vB (decide (p0.round ≥ ((p0_rounds.length : Nat) : Int)))) fun a hr => ?_
 refine e_end (by kernel_rfl) ?_
 refine then_normal ?_
 by_cases c15 : p0.round ≥ ((p0_rounds.length : Nat) : Int)
 ·
  replace H := ifT c15 H
  refine cond_tt hr (decide_eq_true c15) ?_
  refine sr ?_
  refine oo [14, 15, 16, 17] [pA B0 0, pA B0 0, pA B0 8, pA B0 8] hr fun a hr => ?_
  refine sto (wn rfl) hr h 8 (vB true) fun w h => ?_
  refine wpList_nil ?_
  replace h : Fit z (sepL (pts B0 (.cells #[pA B0_arena 0, vI p0.table_Base, vI p0.table_Frames, .slice va0_rounds p0_rounds.length vc0_rounds, vI p0.round, .slice ca5 p0.live.length cc6, vI p0.made, vI p0.got, vB true, vI p0.run_Steps, .slice ca7 p0.run_Holders.length cc8, .slice ca9 p0.run_Reads.length cc10, .slice ca11 p0.run_Marks.length cc12, .slice ca13 p0.run_Log.length cc14] 133) :: rowH 135 1 own_ptr135 (.slice ca5 p0.live.length cc6) p0.live ix0_live cs0_live :: ro3 ca7 cc8 p0.run_Holders :: rn31 ca9 cc10 p0.run_Reads :: ro2 ca11 cc12 p0.run_Marks :: ro96 ca13 cc14 p0.run_Log :: ob103 B0_arena p0_arena ca1 cc2 ca3 cc4 :: ro2 ca1 cc2 p0_arena.cell :: ro96 ca3 cc4 p0_arena.log :: ob137 B1 p1 :: L)) _ := h
  refine then_normal ?_
  refine wp_ret ?_
  refine then_ret ?_
  refine end_ret0 rfl hr ?_
  obtain ⟨rfl, rfl⟩ := ej2 H
  exact ⟨ca5, cc6, ca7, cc8, ca9, cc10, ca11, cc12, ca13, cc14, rfl, h⟩
 ·
  replace H := ifF c15 H
  refine cond_ff hr (decide_eq_false c15) ?_
  refine wp_skip ?_
  refine then_normal ?_
  refine sr ?_
  refine oo [18, 19, 20] [pA B1 0, pA B1 0, pA B1 15] hr fun a hr => ?_
  replace h : Fit z (sepL (ob137 B1 p1 :: ob133 B0 p0 (pA B0_arena 0) (.slice va0_rounds p0_rounds.length vc0_rounds) ca5 cc6 ca7 cc8 ca9 cc10 ca11 cc12 ca13 cc14 :: rowH 135 1 own_ptr135 (.slice ca5 p0.live.length cc6) p0.live ix0_live cs0_live :: ro3 ca7 cc8 p0.run_Holders :: rn31 ca9 cc10 p0.run_Reads :: ro2 ca11 cc12 p0.run_Marks :: ro96 ca13 cc14 p0.run_Log :: ob103 B0_arena p0_arena ca1 cc2 ca3 cc4 :: ro2 ca1 cc2 p0_arena.cell :: ro96 ca3 cc4 p0_arena.log :: L)) _ := h.sel 10 [9, 0, 1, 2, 3, 4, 5, 6, 7, 8] (by kernel_rfl) (by kernel_rfl)
  refine sto (wn rfl) hr h 15 (vI 0) fun w h => ?_
  refine wpList_nil ?_
  replace h : Fit z (sepL (pts B1 (.cells #[vI p1.number, vI p1.about, vI p1.op_head_t_Base, vI p1.op_head_t_Frames, vI p1.op_head_frame, vI p1.op_head_stands, vI p1.op_head_code, vI p1.op_head_v, vI p1.op_kind, vI p1.op_slot, vI p1.op_give, vB p1.inOp, vI p1.frame, vI p1.slot, vI p1.value, vI 0, vB p1.child] 137) :: ob133 B0 p0 (pA B0_arena 0) (.slice va0_rounds p0_rounds.length vc0_rounds) ca5 cc6 ca7 cc8 ca9 cc10 ca11 cc12 ca13 cc14 :: rowH 135 1 own_ptr135 (.slice ca5 p0.live.length cc6) p0.live ix0_live cs0_live :: ro3 ca7 cc8 p0.run_Holders :: rn31 ca9 cc10 p0.run_Reads :: ro2 ca11 cc12 p0.run_Marks :: ro96 ca13 cc14 p0.run_Log :: ob103 B0_arena p0_arena ca1 cc2 ca3 cc4 :: ro2 ca1 cc2 p0_arena.cell :: ro96 ca3 cc4 p0_arena.log :: L)) _ := h
  refine then_normal ?_
  refine wp_region_lit ?_
  obtain ⟨S16, e17, H⟩ := bd1 H
  refine oo [21, 22] [pA B0 0, pA B1 0] hr fun a hr => ?_
  replace h : Fit z (sepL (ob133 B0 p0 (pA B0_arena 0) (.slice va0_rounds p0_rounds.length vc0_rounds) ca5 cc6 ca7 cc8 ca9 cc10 ca11 cc12 ca13 cc14 :: rowH 135 1 own_ptr135 (.slice ca5 p0.live.length cc6) p0.live ix0_live cs0_live :: ro3 ca7 cc8 p0.run_Holders :: rn31 ca9 cc10 p0.run_Reads :: ro2 ca11 cc12 p0.run_Marks :: ro96 ca13 cc14 p0.run_Log :: ob103 B0_arena p0_arena ca1 cc2 ca3 cc4 :: ro2 ca1 cc2 p0_arena.cell :: ro96 ca3 cc4 p0_arena.log :: pts B1 (.cells #[vI p1.number, vI p1.about, vI p1.op_head_t_Base, vI p1.op_head_t_Frames, vI p1.op_head_frame, vI p1.op_head_stands, vI p1.op_head_code, vI p1.op_head_v, vI p1.op_kind, vI p1.op_slot, vI p1.op_give, vB p1.inOp, vI p1.frame, vI p1.slot, vI p1.value, vI 0, vB p1.child] 137) :: L)) _ := h.sel 10 [1, 2, 3, 4, 5, 6, 7, 8, 9, 0] (by kernel_rfl) (by kernel_rfl)
  have hc := frames_join_fork_ok (va0_rounds := va0_rounds) (vc0_rounds := vc0_rounds) (hv0_rounds := (RdRow.up 0 hv0_rounds)) (H := e17) (h := h)
  refine cl (wn rfl) hr hc ?_; clear hc h
  rintro _ w ⟨rfl, h⟩; refine ⟨_, rfl, fun a hr => ?_⟩
  refine wpList_nil ?_
  refine end_norm0 rfl hr ?_
  obtain ⟨rfl, rfl⟩ := ej2 H
  exact ⟨ca5, cc6, ca7, cc8, ca9, cc10, ca11, cc12, ca13, cc14, rfl, h⟩

/-- (*plunder/frames.join).join -/
def frames_join_join_join (p0 : T_frames_join) (p0_arena : T_cells_Arena) (p0_rounds : List Int) (p1 : T_frames_actor) : Option (T_frames_join) :=
  if (p0.live.length + 1) * 8 ≤ 140737488355328 then some ({ p0 with live := p0.live ++ [{ p1 with number := p0.made }], made := wi (p0.made + 1) }) else none

set_option maxRecDepth 100000 in
set_option maxHeartbeats 4000000 in
theorem frames_join_join_join_ok {z w : World} {L : List HProp} {p0 : T_frames_join} {p0_arena : T_cells_Arena} {p0_rounds : List Int} {p1 : T_frames_actor} {B0 : Nat} {B0_arena : Nat} {ca1 : Option Addr} {cc2 : Nat} {ca3 : Option Addr} {cc4 : Nat} {va0_rounds : Option Addr} {vc0_rounds : Nat} {ix0_live : Nat} {cs0_live : List Value} {ca5 : Option Addr} {cc6 : Nat} {ca7 : Option Addr} {cc8 : Nat} {ca9 : Option Addr} {cc10 : Nat} {ca11 : Option Addr} {cc12 : Nat} {ca13 : Option Addr} {cc14 : Nat} {B1 : Nat} {q0 : T_frames_join} (H : frames_join_join_join p0 p0_arena p0_rounds p1 = some q0) (h : Fit z (sepL (ob133 B0 p0 (pA B0_arena 0) (.slice va0_rounds p0_rounds.length vc0_rounds) ca5 cc6 ca7 cc8 ca9 cc10 ca11 cc12 ca13 cc14 :: rowH 135 1 own_ptr135 (.slice ca5 p0.live.length cc6) p0.live ix0_live cs0_live :: ro3 ca7 cc8 p0.run_Holders :: rn31 ca9 cc10 p0.run_Reads :: ro2 ca11 cc12 p0.run_Marks :: ro96 ca13 cc14 p0.run_Log :: ob103 B0_arena p0_arena ca1 cc2 ca3 cc4 :: ro2 ca1 cc2 p0_arena.cell :: ro96 ca3 cc4 p0_arena.log :: ob137 B1 p1 :: L)) w) (hv0_rounds : RdRow L 1 encZ_i64 va0_rounds p0_rounds) :
    Calls Try.prog 74 #[pA B0 0, pA B1 0] w fun e w => ∃ caq0_1 : Option Addr, ∃ ccq0_2 : Nat, ∃ caq0_3 : Option Addr, ∃ ccq0_4 : Nat, ∃ caq0_5 : Option Addr, ∃ ccq0_6 : Nat, ∃ caq0_7 : Option Addr, ∃ ccq0_8 : Nat, ∃ caq0_9 : Option Addr, ∃ ccq0_10 : Nat, e = .returned (.tuple #[]) ∧ Fit z (sepL (ob133 B0 q0 (pA B0_arena 0) (.slice va0_rounds p0_rounds.length vc0_rounds) caq0_1 ccq0_2 caq0_3 ccq0_4 caq0_5 ccq0_6 caq0_7 ccq0_8 caq0_9 ccq0_10 :: rowH 135 1 own_ptr135 (.slice caq0_1 q0.live.length ccq0_2) q0.live ix0_live cs0_live :: ro3 caq0_3 ccq0_4 q0.run_Holders :: rn31 caq0_5 ccq0_6 q0.run_Reads :: ro2 caq0_7 ccq0_8 q0.run_Marks :: ro96 caq0_9 ccq0_10 q0.run_Log :: ob103 B0_arena p0_arena ca1 cc2 ca3 cc4 :: ro2 ca1 cc2 p0_arena.cell :: ro96 ca3 cc4 p0_arena.log :: L)) w := by
 unfold frames_join_join_join at H
 refine enter Try.func74 rfl 28 rfl rfl [(0, pA B0 0), (1, pA B1 0)] ⟨rfl, rfl, trivial⟩ ?_
 intro j a hr
 refine sr ?_
 refine oo [4, 5, 6, 7] [pA B1 0, pA B0 0, pA B0 0, pA B0 6] hr fun a hr => ?_
 refine ld (wn rfl) hr (vI p0.made) (h.cell 6 rfl) fun a hr => ?_
 refine oo [9, 10] [pA B1 0, pA B1 0] hr fun a hr => ?_
 replace h : Fit z (sepL (ob137 B1 p1 :: ob133 B0 p0 (pA B0_arena 0) (.slice va0_rounds p0_rounds.length vc0_rounds) ca5 cc6 ca7 cc8 ca9 cc10 ca11 cc12 ca13 cc14 :: rowH 135 1 own_ptr135 (.slice ca5 p0.live.length cc6) p0.live ix0_live cs0_live :: ro3 ca7 cc8 p0.run_Holders :: rn31 ca9 cc10 p0.run_Reads :: ro2 ca11 cc12 p0.run_Marks :: ro96 ca13 cc14 p0.run_Log :: ob103 B0_arena p0_arena ca1 cc2 ca3 cc4 :: ro2 ca1 cc2 p0_arena.cell :: ro96 ca3 cc4 p0_arena.log :: L)) _ := h.sel 10 [9, 0, 1, 2, 3, 4, 5, 6, 7, 8] (by kernel_rfl) (by kernel_rfl)
 refine sto (wn rfl) hr h 0 (vI p0.made) fun w h => ?_
 refine wpList_nil ?_
 replace h : Fit z (sepL (pts B1 (.cells #[vI p0.made, vI p1.about, vI p1.op_head_t_Base, vI p1.op_head_t_Frames, vI p1.op_head_frame, vI p1.op_head_stands, vI p1.op_head_code, vI p1.op_head_v, vI p1.op_kind, vI p1.op_slot, vI p1.op_give, vB p1.inOp, vI p1.frame, vI p1.slot, vI p1.value, vI p1.at_, vB p1.child] 137) :: ob133 B0 p0 (pA B0_arena 0) (.slice va0_rounds p0_rounds.length vc0_rounds) ca5 cc6 ca7 cc8 ca9 cc10 ca11 cc12 ca13 cc14 :: rowH 135 1 own_ptr135 (.slice ca5 p0.live.length cc6) p0.live ix0_live cs0_live :: ro3 ca7 cc8 p0.run_Holders :: rn31 ca9 cc10 p0.run_Reads :: ro2 ca11 cc12 p0.run_Marks :: ro96 ca13 cc14 p0.run_Log :: ob103 B0_arena p0_arena ca1 cc2 ca3 cc4 :: ro2 ca1 cc2 p0_arena.cell :: ro96 ca3 cc4 p0_arena.log :: L)) _ := h
 refine then_normal ?_
 refine sr ?_
 refine oo [11, 12, 13] [pA B0 0, pA B0 0, pA B0 6] hr fun a hr => ?_
 refine ld (wn rfl) hr (vI p0.made) ((h.pick 1).cell 6 rfl) fun a hr => ?_
 refine oo [15, 16, 17] [vI (wi (p0.made + 1)), pA B0 0, pA B0 6] hr fun a hr => ?_
 replace h : Fit z (sepL (ob133 B0 p0 (pA B0_arena 0) (.slice va0_rounds p0_rounds.length vc0_rounds) ca5 cc6 ca7 cc8 ca9 cc10 ca11 cc12 ca13 cc14 :: pts B1 (.cells #[vI p0.made, vI p1.about, vI p1.op_head_t_Base, vI p1.op_head_t_Frames, vI p1.op_head_frame, vI p1.op_head_stands, vI p1.op_head_code, vI p1.op_head_v, vI p1.op_kind, vI p1.op_slot, vI p1.op_give, vB p1.inOp, vI p1.frame, vI p1.slot, vI p1.value, vI p1.at_, vB p1.child] 137) :: rowH 135 1 own_ptr135 (.slice ca5 p0.live.length cc6) p0.live ix0_live cs0_live :: ro3 ca7 cc8 p0.run_Holders :: rn31 ca9 cc10 p0.run_Reads :: ro2 ca11 cc12 p0.run_Marks :: ro96 ca13 cc14 p0.run_Log :: ob103 B0_arena p0_arena ca1 cc2 ca3 cc4 :: ro2 ca1 cc2 p0_arena.cell :: ro96 ca3 cc4 p0_arena.log :: L)) _ := h.sel 10 [1, 0, 2, 3, 4, 5, 6, 7, 8, 9] (by kernel_rfl) (by kernel_rfl)
 refine sto (wn rfl) hr h 6 (vI (wi (p0.made + 1))) fun w h => ?_
 refine wpList_nil ?_
 replace h : Fit z (sepL (pts B0 (.cells #[pA B0_arena 0, vI p0.table_Base, vI p0.table_Frames, .slice va0_rounds p0_rounds.length vc0_rounds, vI p0.round, .slice ca5 p0.live.length cc6, vI (wi (p0.made + 1)), vI p0.got, vB p0.run_Done, vI p0.run_Steps, .slice ca7 p0.run_Holders.length cc8, .slice ca9 p0.run_Reads.length cc10, .slice ca11 p0.run_Marks.length cc12, .slice ca13 p0.run_Log.length cc14] 133) :: pts B1 (.cells #[vI p0.made, vI p1.about, vI p1.op_head_t_Base, vI p1.op_head_t_Frames, vI p1.op_head_frame, vI p1.op_head_stands, vI p1.op_head_code, vI p1.op_head_v, vI p1.op_kind, vI p1.op_slot, vI p1.op_give, vB p1.inOp, vI p1.frame, vI p1.slot, vI p1.value, vI p1.at_, vB p1.child] 137) :: rowH 135 1 own_ptr135 (.slice ca5 p0.live.length cc6) p0.live ix0_live cs0_live :: ro3 ca7 cc8 p0.run_Holders :: rn31 ca9 cc10 p0.run_Reads :: ro2 ca11 cc12 p0.run_Marks :: ro96 ca13 cc14 p0.run_Log :: ob103 B0_arena p0_arena ca1 cc2 ca3 cc4 :: ro2 ca1 cc2 p0_arena.cell :: ro96 ca3 cc4 p0_arena.log :: L)) _ := h
 refine then_normal ?_
 refine wp_region_lit ?_
 refine oo [18, 19, 20, 21] [pA B0 0, pA B0 0, pA B0 0, pA B0 5] hr fun a hr => ?_
 refine ld (wn rfl) hr (.slice ca5 p0.live.length cc6) (h.cell 5 rfl) fun a hr => ?_
 refine o1 hr (pA B1 0) fun a hr => ?_
 refine onew (wn rfl) hr h (fun b => .slice (some ⟨b, 0, none⟩) 1 1) (#[pA B1 0]) 135 fun b15 w a h hr => ?_
 replace h : Fit z (sepL (pts B1 (.cells #[vI p0.made, vI p1.about, vI p1.op_head_t_Base, vI p1.op_head_t_Frames, vI p1.op_head_frame, vI p1.op_head_stands, vI p1.op_head_code, vI p1.op_head_v, vI p1.op_kind, vI p1.op_slot, vI p1.op_give, vB p1.inOp, vI p1.frame, vI p1.slot, vI p1.value, vI p1.at_, vB p1.child] 137) :: pts b15 (.cells #[pA B1 0] 135) :: pts B0 (.cells #[pA B0_arena 0, vI p0.table_Base, vI p0.table_Frames, .slice va0_rounds p0_rounds.length vc0_rounds, vI p0.round, .slice ca5 p0.live.length cc6, vI (wi (p0.made + 1)), vI p0.got, vB p0.run_Done, vI p0.run_Steps, .slice ca7 p0.run_Holders.length cc8, .slice ca9 p0.run_Reads.length cc10, .slice ca11 p0.run_Marks.length cc12, .slice ca13 p0.run_Log.length cc14] 133) :: rowH 135 1 own_ptr135 (.slice ca5 p0.live.length cc6) p0.live ix0_live cs0_live :: ro3 ca7 cc8 p0.run_Holders :: rn31 ca9 cc10 p0.run_Reads :: ro2 ca11 cc12 p0.run_Marks :: ro96 ca13 cc14 p0.run_Log :: ob103 B0_arena p0_arena ca1 cc2 ca3 cc4 :: ro2 ca1 cc2 p0_arena.cell :: ro96 ca3 cc4 p0_arena.log :: L)) _ := h.sel 11 [2, 0, 1, 3, 4, 5, 6, 7, 8, 9, 10] (by kernel_rfl) (by kernel_rfl)
 replace h := own_ptr135_sh (x := ({ p1 with number := p0.made })) h
 obtain ⟨c16, H⟩ := gd H
 replace h : Fit z (sepL (rowH 135 1 own_ptr135 (.slice ca5 p0.live.length cc6) p0.live ix0_live cs0_live :: own_ptr135 ({ p1 with number := p0.made }) [pA B1 0] :: pts b15 (.cells #[pA B1 0] 135) :: pts B0 (.cells #[pA B0_arena 0, vI p0.table_Base, vI p0.table_Frames, .slice va0_rounds p0_rounds.length vc0_rounds, vI p0.round, .slice ca5 p0.live.length cc6, vI (wi (p0.made + 1)), vI p0.got, vB p0.run_Done, vI p0.run_Steps, .slice ca7 p0.run_Holders.length cc8, .slice ca9 p0.run_Reads.length cc10, .slice ca11 p0.run_Marks.length cc12, .slice ca13 p0.run_Log.length cc14] 133) :: ro3 ca7 cc8 p0.run_Holders :: rn31 ca9 cc10 p0.run_Reads :: ro2 ca11 cc12 p0.run_Marks :: ro96 ca13 cc14 p0.run_Log :: ob103 B0_arena p0_arena ca1 cc2 ca3 cc4 :: ro2 ca1 cc2 p0_arena.cell :: ro96 ca3 cc4 p0_arena.log :: L)) _ := h.sel 11 [3, 0, 1, 2, 4, 5, 6, 7, 8, 9, 10] (by kernel_rfl) (by kernel_rfl)
 refine op_append_HN (n0 := p0.live.length) (c := 1) (bytes := 8) (sz := 1) (wn rfl) rfl rfl hr rfl (by kernel_rfl) (by kernel_rfl) (E := 135) (xs := p0.live) (by kernel_rfl) (by kernel_rfl) rfl rfl rfl h ((h.pick 2).news rfl) c16 rfl fun ca17 cc18 w a h hr => ?_
 refine oo [26, 27] [pA B0 0, pA B0 5] hr fun a hr => ?_
 replace h : Fit z (sepL (pts B0 (.cells #[pA B0_arena 0, vI p0.table_Base, vI p0.table_Frames, .slice va0_rounds p0_rounds.length vc0_rounds, vI p0.round, .slice ca5 p0.live.length cc6, vI (wi (p0.made + 1)), vI p0.got, vB p0.run_Done, vI p0.run_Steps, .slice ca7 p0.run_Holders.length cc8, .slice ca9 p0.run_Reads.length cc10, .slice ca11 p0.run_Marks.length cc12, .slice ca13 p0.run_Log.length cc14] 133) :: rowH 135 1 own_ptr135 (.slice ca17 (p0.live ++ [{ p1 with number := p0.made }]).length cc18) (p0.live ++ [{ p1 with number := p0.made }]) ix0_live cs0_live :: pts b15 (.cells #[pA B1 0] 135) :: ro3 ca7 cc8 p0.run_Holders :: rn31 ca9 cc10 p0.run_Reads :: ro2 ca11 cc12 p0.run_Marks :: ro96 ca13 cc14 p0.run_Log :: ob103 B0_arena p0_arena ca1 cc2 ca3 cc4 :: ro2 ca1 cc2 p0_arena.cell :: ro96 ca3 cc4 p0_arena.log :: L)) _ := h.sel 10 [2, 0, 1, 3, 4, 5, 6, 7, 8, 9] (by kernel_rfl) (by kernel_rfl)
 refine sto (wn rfl) hr h 5 (.slice ca17 (p0.live ++ [{ p1 with number := p0.made }]).length cc18) fun w h => ?_
 refine wpList_nil ?_
 replace h : Fit z (sepL (pts B0 (.cells #[pA B0_arena 0, vI p0.table_Base, vI p0.table_Frames, .slice va0_rounds p0_rounds.length vc0_rounds, vI p0.round, .slice ca17 (p0.live ++ [{ p1 with number := p0.made }]).length cc18, vI (wi (p0.made + 1)), vI p0.got, vB p0.run_Done, vI p0.run_Steps, .slice ca7 p0.run_Holders.length cc8, .slice ca9 p0.run_Reads.length cc10, .slice ca11 p0.run_Marks.length cc12, .slice ca13 p0.run_Log.length cc14] 133) :: rowH 135 1 own_ptr135 (.slice ca17 (p0.live ++ [{ p1 with number := p0.made }]).length cc18) (p0.live ++ [{ p1 with number := p0.made }]) ix0_live cs0_live :: pts b15 (.cells #[pA B1 0] 135) :: ro3 ca7 cc8 p0.run_Holders :: rn31 ca9 cc10 p0.run_Reads :: ro2 ca11 cc12 p0.run_Marks :: ro96 ca13 cc14 p0.run_Log :: ob103 B0_arena p0_arena ca1 cc2 ca3 cc4 :: ro2 ca1 cc2 p0_arena.cell :: ro96 ca3 cc4 p0_arena.log :: L)) _ := h
 refine end_norm0 rfl hr ?_
 replace h : Fit z (sepL (pts B0 (.cells #[pA B0_arena 0, vI p0.table_Base, vI p0.table_Frames, .slice va0_rounds p0_rounds.length vc0_rounds, vI p0.round, .slice ca17 (p0.live ++ [{ p1 with number := p0.made }]).length cc18, vI (wi (p0.made + 1)), vI p0.got, vB p0.run_Done, vI p0.run_Steps, .slice ca7 p0.run_Holders.length cc8, .slice ca9 p0.run_Reads.length cc10, .slice ca11 p0.run_Marks.length cc12, .slice ca13 p0.run_Log.length cc14] 133) :: rowH 135 1 own_ptr135 (.slice ca17 (p0.live ++ [{ p1 with number := p0.made }]).length cc18) (p0.live ++ [{ p1 with number := p0.made }]) ix0_live cs0_live :: ro3 ca7 cc8 p0.run_Holders :: rn31 ca9 cc10 p0.run_Reads :: ro2 ca11 cc12 p0.run_Marks :: ro96 ca13 cc14 p0.run_Log :: ob103 B0_arena p0_arena ca1 cc2 ca3 cc4 :: ro2 ca1 cc2 p0_arena.cell :: ro96 ca3 cc4 p0_arena.log :: L)) _ := h.sel 10 [0, 1, 3, 4, 5, 6, 7, 8, 9] (by kernel_rfl) (by kernel_rfl)
 replace H := ej1 H; subst H
 exact ⟨ca17, cc18, ca7, cc8, ca9, cc10, ca11, cc12, ca13, cc14, rfl, h⟩

/-- (*plunder/frames.join).read -/
def frames_join_read (p0 : T_frames_join) (p0_arena : T_cells_Arena) (p0_rounds : List Int) (p1 : T_frames_actor) : Option (T_frames_join × T_frames_actor) :=
  if inr_ p0.round p0_rounds.length then (if p1.at_ ≥ (at_ p0_rounds p0.round.toNat) then ob2 (frames_join_enter ({ p0 with round := wi (p0.round + 1) }) p0_arena p0_rounds ({ p1 with about := 6 })) (fun S17 S18 => some (S17, S18)) else some (p0, { p1 with about := 6 })) else none

set_option maxRecDepth 100000 in
set_option maxHeartbeats 4000000 in
theorem frames_join_read_ok {z w : World} {L : List HProp} {p0 : T_frames_join} {p0_arena : T_cells_Arena} {p0_rounds : List Int} {p1 : T_frames_actor} {B0 : Nat} {B0_arena : Nat} {ca1 : Option Addr} {cc2 : Nat} {ca3 : Option Addr} {cc4 : Nat} {va0_rounds : Option Addr} {vc0_rounds : Nat} {ix0_live : Nat} {cs0_live : List Value} {ca5 : Option Addr} {cc6 : Nat} {ca7 : Option Addr} {cc8 : Nat} {ca9 : Option Addr} {cc10 : Nat} {ca11 : Option Addr} {cc12 : Nat} {ca13 : Option Addr} {cc14 : Nat} {B1 : Nat} {q0 : T_frames_join} {q1 : T_frames_actor} (H : frames_join_read p0 p0_arena p0_rounds p1 = some (q0, q1)) (h : Fit z (sepL (ob133 B0 p0 (pA B0_arena 0) (.slice va0_rounds p0_rounds.length vc0_rounds) ca5 cc6 ca7 cc8 ca9 cc10 ca11 cc12 ca13 cc14 :: rowH 135 1 own_ptr135 (.slice ca5 p0.live.length cc6) p0.live ix0_live cs0_live :: ro3 ca7 cc8 p0.run_Holders :: rn31 ca9 cc10 p0.run_Reads :: ro2 ca11 cc12 p0.run_Marks :: ro96 ca13 cc14 p0.run_Log :: ob103 B0_arena p0_arena ca1 cc2 ca3 cc4 :: ro2 ca1 cc2 p0_arena.cell :: ro96 ca3 cc4 p0_arena.log :: ob137 B1 p1 :: L)) w) (hv0_rounds : RdRow L 1 encZ_i64 va0_rounds p0_rounds) :
    Calls Try.prog 106 #[pA B0 0, pA B1 0] w fun e w => ∃ caq0_1 : Option Addr, ∃ ccq0_2 : Nat, ∃ caq0_3 : Option Addr, ∃ ccq0_4 : Nat, ∃ caq0_5 : Option Addr, ∃ ccq0_6 : Nat, ∃ caq0_7 : Option Addr, ∃ ccq0_8 : Nat, ∃ caq0_9 : Option Addr, ∃ ccq0_10 : Nat, e = .returned (.tuple #[]) ∧ Fit z (sepL (ob133 B0 q0 (pA B0_arena 0) (.slice va0_rounds p0_rounds.length vc0_rounds) caq0_1 ccq0_2 caq0_3 ccq0_4 caq0_5 ccq0_6 caq0_7 ccq0_8 caq0_9 ccq0_10 :: rowH 135 1 own_ptr135 (.slice caq0_1 q0.live.length ccq0_2) q0.live ix0_live cs0_live :: ro3 caq0_3 ccq0_4 q0.run_Holders :: rn31 caq0_5 ccq0_6 q0.run_Reads :: ro2 caq0_7 ccq0_8 q0.run_Marks :: ro96 caq0_9 ccq0_10 q0.run_Log :: ob103 B0_arena p0_arena ca1 cc2 ca3 cc4 :: ro2 ca1 cc2 p0_arena.cell :: ro96 ca3 cc4 p0_arena.log :: ob137 B1 q1 :: L)) w := by
 unfold frames_join_read at H
 refine enter Try.func106 rfl 32 rfl rfl [(0, pA B0 0), (1, pA B1 0)] ⟨rfl, rfl, trivial⟩ ?_
 intro j a hr
 refine sr ?_
 refine oo [4, 5, 6] [pA B1 0, pA B1 0, pA B1 1] hr fun a hr => ?_
 replace h : Fit z (sepL (ob137 B1 p1 :: ob133 B0 p0 (pA B0_arena 0) (.slice va0_rounds p0_rounds.length vc0_rounds) ca5 cc6 ca7 cc8 ca9 cc10 ca11 cc12 ca13 cc14 :: rowH 135 1 own_ptr135 (.slice ca5 p0.live.length cc6) p0.live ix0_live cs0_live :: ro3 ca7 cc8 p0.run_Holders :: rn31 ca9 cc10 p0.run_Reads :: ro2 ca11 cc12 p0.run_Marks :: ro96 ca13 cc14 p0.run_Log :: ob103 B0_arena p0_arena ca1 cc2 ca3 cc4 :: ro2 ca1 cc2 p0_arena.cell :: ro96 ca3 cc4 p0_arena.log :: L)) _ := h.sel 10 [9, 0, 1, 2, 3, 4, 5, 6, 7, 8] (by kernel_rfl) (by kernel_rfl)
 refine sto (wn rfl) hr h 1 (vI 6) fun w h => ?_
 refine wpList_nil ?_
 replace h : Fit z (sepL (pts B1 (.cells #[vI p1.number, vI 6, vI p1.op_head_t_Base, vI p1.op_head_t_Frames, vI p1.op_head_frame, vI p1.op_head_stands, vI p1.op_head_code, vI p1.op_head_v, vI p1.op_kind, vI p1.op_slot, vI p1.op_give, vB p1.inOp, vI p1.frame, vI p1.slot, vI p1.value, vI p1.at_, vB p1.child] 137) :: ob133 B0 p0 (pA B0_arena 0) (.slice va0_rounds p0_rounds.length vc0_rounds) ca5 cc6 ca7 cc8 ca9 cc10 ca11 cc12 ca13 cc14 :: rowH 135 1 own_ptr135 (.slice ca5 p0.live.length cc6) p0.live ix0_live cs0_live :: ro3 ca7 cc8 p0.run_Holders :: rn31 ca9 cc10 p0.run_Reads :: ro2 ca11 cc12 p0.run_Marks :: ro96 ca13 cc14 p0.run_Log :: ob103 B0_arena p0_arena ca1 cc2 ca3 cc4 :: ro2 ca1 cc2 p0_arena.cell :: ro96 ca3 cc4 p0_arena.log :: L)) _ := h
 refine then_normal ?_
 refine wp_seq ?_
 obtain ⟨c15, H⟩ := gd H
 refine reg_E (fun w => heldC w B1 15 ([vI p1.at_]) ∧ heldC w B0 3 ([.slice va0_rounds p0_rounds.length vc0_rounds]) ∧ heldC w B0 4 ([vI p0.round]) ∧ heldC w (blk va0_rounds) (offs va0_rounds + p0.round.toNat * 1) ([vI (at_ p0_rounds p0.round.toNat)]) ∧ True) [1, 2, 5, 6, 9, 10, 12] h (by kernel_rfl) ?_; intro w h
 change wpAnyE _ _ _ _ _ _ 15 (Array.replicate 15 false) a w
 have hgo : ∀ w w', CellsGo w w' → (heldC w B1 15 ([vI p1.at_]) ∧ heldC w B0 3 ([.slice va0_rounds p0_rounds.length vc0_rounds]) ∧ heldC w B0 4 ([vI p0.round]) ∧ heldC w (blk va0_rounds) (offs va0_rounds + p0.round.toNat * 1) ([vI (at_ p0_rounds p0.round.toNat)]) ∧ True) → heldC w' B1 15 ([vI p1.at_]) ∧ heldC w' B0 3 ([.slice va0_rounds p0_rounds.length vc0_rounds]) ∧ heldC w' B0 4 ([vI p0.round]) ∧ heldC w' (blk va0_rounds) (offs va0_rounds + p0.round.toNat * 1) ([vI (at_ p0_rounds p0.round.toNat)]) ∧ True := fun w w' g hD => ⟨heldC_go _ _ _ _ _ g hD.1, heldC_go _ _ _ _ _ g hD.2.1, heldC_go _ _ _ _ _ g hD.2.2.1, heldC_go _ _ _ _ _ g hD.2.2.2.1, trivial⟩
 refine evs 14 0 rfl (wn rfl) hr (pA B1 0) fun a hr => ?_
 refine evDs hgo ⟨⟨h.cell 15 rfl, trivial⟩, ⟨(h.pick 1).cell 3 rfl, trivial⟩, ⟨(h.pick 1).cell 4 rfl, trivial⟩, ⟨hv0_rounds.cell c15 (h.dn 10) 0 rfl, trivial⟩, trivial⟩ 13 1 rfl (wn rfl) hr (pA B1 0) fun a hr => ?_
 refine evDs hgo ⟨⟨h.cell 15 rfl, trivial⟩, ⟨(h.pick 1).cell 3 rfl, trivial⟩, ⟨(h.pick 1).cell 4 rfl, trivial⟩, ⟨hv0_rounds.cell c15 (h.dn 10) 0 rfl, trivial⟩, trivial⟩ 12 2 rfl (wn rfl) hr (pA B1 15) fun a hr => ?_
 refine evs 11 4 rfl (wn rfl) hr (pA B0 0) fun a hr => ?_
 refine evDs hgo ⟨⟨h.cell 15 rfl, trivial⟩, ⟨(h.pick 1).cell 3 rfl, trivial⟩, ⟨(h.pick 1).cell 4 rfl, trivial⟩, ⟨hv0_rounds.cell c15 (h.dn 10) 0 rfl, trivial⟩, trivial⟩ 10 5 rfl (wn rfl) hr (pA B0 0) fun a hr => ?_
 refine evDs hgo ⟨⟨h.cell 15 rfl, trivial⟩, ⟨(h.pick 1).cell 3 rfl, trivial⟩, ⟨(h.pick 1).cell 4 rfl, trivial⟩, ⟨hv0_rounds.cell c15 (h.dn 10) 0 rfl, trivial⟩, trivial⟩ 9 6 rfl (wn rfl) hr (pA B0 3) fun a hr => ?_
 refine evs 8 8 rfl (wn rfl) hr (pA B0 0) fun a hr => ?_
 refine evDs hgo ⟨⟨h.cell 15 rfl, trivial⟩, ⟨(h.pick 1).cell 3 rfl, trivial⟩, ⟨(h.pick 1).cell 4 rfl, trivial⟩, ⟨hv0_rounds.cell c15 (h.dn 10) 0 rfl, trivial⟩, trivial⟩ 7 9 rfl (wn rfl) hr (pA B0 0) fun a hr => ?_
 refine evDs hgo ⟨⟨h.cell 15 rfl, trivial⟩, ⟨(h.pick 1).cell 3 rfl, trivial⟩, ⟨(h.pick 1).cell 4 rfl, trivial⟩, ⟨hv0_rounds.cell c15 (h.dn 10) 0 rfl, trivial⟩, trivial⟩ 6 10 rfl (wn rfl) hr (pA B0 4) fun a hr => ?_
 refine el [1, 2, 5, 6, 9, 10, 12] (b := B1) (off := 15) (cs := [vI p1.at_]) (fun _ hk => ⟨hk, fun w hD => hD.1⟩) 5 3 rfl (by kernel_rfl) (wn rfl) hr (vI p1.at_) ⟨h.cell 15 rfl, trivial⟩ (fun w hc => rl rfl (by kernel_rfl) (by kernel_rfl) hc.1) fun a hr => ?_
 refine el [1, 2, 5, 6, 9, 10, 12] (b := B0) (off := 3) (cs := [.slice va0_rounds p0_rounds.length vc0_rounds]) (fun _ hk => ⟨hk, fun w hD => hD.2.1⟩) 4 7 rfl (by kernel_rfl) (wn rfl) hr (.slice va0_rounds p0_rounds.length vc0_rounds) ⟨(h.pick 1).cell 3 rfl, trivial⟩ (fun w hc => rl rfl (by kernel_rfl) (by kernel_rfl) hc.1) fun a hr => ?_
 refine el [1, 2, 5, 6, 9, 10, 12] (b := B0) (off := 4) (cs := [vI p0.round]) (fun _ hk => ⟨hk, fun w hD => hD.2.2.1⟩) 3 11 rfl (by kernel_rfl) (wn rfl) hr (vI p0.round) ⟨(h.pick 1).cell 4 rfl, trivial⟩ (fun w hc => rl rfl (by kernel_rfl) (by kernel_rfl) hc.1) fun a hr => ?_
 refine evD hgo ⟨⟨h.cell 15 rfl, trivial⟩, ⟨(h.pick 1).cell 3 rfl, trivial⟩, ⟨(h.pick 1).cell 4 rfl, trivial⟩, ⟨hv0_rounds.cell c15 (h.dn 10) 0 rfl, trivial⟩, trivial⟩ 2 12 rfl (by kernel_rfl) (wn rfl) hr (pA (blk va0_rounds) (offs va0_rounds + p0.round.toNat * 1)) (fun w => ri_rd (k := .i64) (E := 3) (cc := vc0_rounds) rfl (by kernel_rfl) (by kernel_rfl) rfl (by kernel_rfl) (by kernel_rfl) hv0_rounds c15) fun a hr => ?_
 refine el [1, 2, 5, 6, 9, 10, 12] (b := blk va0_rounds) (off := offs va0_rounds + p0.round.toNat * 1) (cs := [vI (at_ p0_rounds p0.round.toNat)]) (fun _ hk => ⟨hk, fun w hD => hD.2.2.2.1⟩) 1 13 rfl (by kernel_rfl) (wn rfl) hr (vI (at_ p0_rounds p0.round.toNat)) ⟨hv0_rounds.cell c15 (h.dn 10) 0 rfl, trivial⟩ (fun w hc => rl rfl (by kernel_rfl) (by kernel_rfl) hc.1) fun a hr => ?_
 refine evs 0 14 rfl (wn rfl) hr (vB (decide (p1.at_ ≥ (at_ p0_rounds p0.round.toNat)))) fun a hr => ?_
 refine e_end (by kernel_rfl) ?_
 refine then_normal ?_
 by_cases c16 : p1.at_ ≥ (at_ p0_rounds p0.round.toNat)
 ·
  replace H := ifT c16 H
  refine cond_tt hr (decide_eq_true c16) ?_
  refine sr ?_
  refine oo [22, 23, 24] [pA B0 0, pA B0 0, pA B0 4] hr fun a hr => ?_
  refine ld (wn rfl) hr (vI p0.round) ((h.pick 1).cell 4 rfl) fun a hr => ?_
  refine oo [26, 27, 28] [vI (wi (p0.round + 1)), pA B0 0, pA B0 4] hr fun a hr => ?_
  replace h : Fit z (sepL (ob133 B0 p0 (pA B0_arena 0) (.slice va0_rounds p0_rounds.length vc0_rounds) ca5 cc6 ca7 cc8 ca9 cc10 ca11 cc12 ca13 cc14 :: pts B1 (.cells #[vI p1.number, vI 6, vI p1.op_head_t_Base, vI p1.op_head_t_Frames, vI p1.op_head_frame, vI p1.op_head_stands, vI p1.op_head_code, vI p1.op_head_v, vI p1.op_kind, vI p1.op_slot, vI p1.op_give, vB p1.inOp, vI p1.frame, vI p1.slot, vI p1.value, vI p1.at_, vB p1.child] 137) :: rowH 135 1 own_ptr135 (.slice ca5 p0.live.length cc6) p0.live ix0_live cs0_live :: ro3 ca7 cc8 p0.run_Holders :: rn31 ca9 cc10 p0.run_Reads :: ro2 ca11 cc12 p0.run_Marks :: ro96 ca13 cc14 p0.run_Log :: ob103 B0_arena p0_arena ca1 cc2 ca3 cc4 :: ro2 ca1 cc2 p0_arena.cell :: ro96 ca3 cc4 p0_arena.log :: L)) _ := h.sel 10 [1, 0, 2, 3, 4, 5, 6, 7, 8, 9] (by kernel_rfl) (by kernel_rfl)
  refine sto (wn rfl) hr h 4 (vI (wi (p0.round + 1))) fun w h => ?_
  refine wpList_nil ?_
  replace h : Fit z (sepL (pts B0 (.cells #[pA B0_arena 0, vI p0.table_Base, vI p0.table_Frames, .slice va0_rounds p0_rounds.length vc0_rounds, vI (wi (p0.round + 1)), .slice ca5 p0.live.length cc6, vI p0.made, vI p0.got, vB p0.run_Done, vI p0.run_Steps, .slice ca7 p0.run_Holders.length cc8, .slice ca9 p0.run_Reads.length cc10, .slice ca11 p0.run_Marks.length cc12, .slice ca13 p0.run_Log.length cc14] 133) :: pts B1 (.cells #[vI p1.number, vI 6, vI p1.op_head_t_Base, vI p1.op_head_t_Frames, vI p1.op_head_frame, vI p1.op_head_stands, vI p1.op_head_code, vI p1.op_head_v, vI p1.op_kind, vI p1.op_slot, vI p1.op_give, vB p1.inOp, vI p1.frame, vI p1.slot, vI p1.value, vI p1.at_, vB p1.child] 137) :: rowH 135 1 own_ptr135 (.slice ca5 p0.live.length cc6) p0.live ix0_live cs0_live :: ro3 ca7 cc8 p0.run_Holders :: rn31 ca9 cc10 p0.run_Reads :: ro2 ca11 cc12 p0.run_Marks :: ro96 ca13 cc14 p0.run_Log :: ob103 B0_arena p0_arena ca1 cc2 ca3 cc4 :: ro2 ca1 cc2 p0_arena.cell :: ro96 ca3 cc4 p0_arena.log :: L)) _ := h
  refine then_normal ?_
  refine wp_region_lit ?_
  obtain ⟨S17, S18, e19, H⟩ := bd2 H
  refine oo [29, 30] [pA B0 0, pA B1 0] hr fun a hr => ?_
  replace h : Fit z (sepL (pts B0 (.cells #[pA B0_arena 0, vI p0.table_Base, vI p0.table_Frames, .slice va0_rounds p0_rounds.length vc0_rounds, vI (wi (p0.round + 1)), .slice ca5 p0.live.length cc6, vI p0.made, vI p0.got, vB p0.run_Done, vI p0.run_Steps, .slice ca7 p0.run_Holders.length cc8, .slice ca9 p0.run_Reads.length cc10, .slice ca11 p0.run_Marks.length cc12, .slice ca13 p0.run_Log.length cc14] 133) :: rowH 135 1 own_ptr135 (.slice ca5 p0.live.length cc6) p0.live ix0_live cs0_live :: ro3 ca7 cc8 p0.run_Holders :: rn31 ca9 cc10 p0.run_Reads :: ro2 ca11 cc12 p0.run_Marks :: ro96 ca13 cc14 p0.run_Log :: ob103 B0_arena p0_arena ca1 cc2 ca3 cc4 :: ro2 ca1 cc2 p0_arena.cell :: ro96 ca3 cc4 p0_arena.log :: pts B1 (.cells #[vI p1.number, vI 6, vI p1.op_head_t_Base, vI p1.op_head_t_Frames, vI p1.op_head_frame, vI p1.op_head_stands, vI p1.op_head_code, vI p1.op_head_v, vI p1.op_kind, vI p1.op_slot, vI p1.op_give, vB p1.inOp, vI p1.frame, vI p1.slot, vI p1.value, vI p1.at_, vB p1.child] 137) :: L)) _ := h.sel 10 [0, 2, 3, 4, 5, 6, 7, 8, 9, 1] (by kernel_rfl) (by kernel_rfl)
  have hc := frames_join_enter_ok (va0_rounds := va0_rounds) (vc0_rounds := vc0_rounds) (hv0_rounds := (RdRow.up 0 hv0_rounds)) (H := e19) (h := h)
  refine cl (wn rfl) hr hc ?_; clear hc h
  rintro _ w ⟨caq20, ccq21, caq22, ccq23, caq24, ccq25, caq26, ccq27, caq28, ccq29, rfl, h⟩; refine ⟨_, rfl, fun a hr => ?_⟩
  refine wpList_nil ?_
  refine end_norm0 rfl hr ?_
  obtain ⟨rfl, rfl⟩ := ej2 H
  exact ⟨caq20, ccq21, caq22, ccq23, caq24, ccq25, caq26, ccq27, caq28, ccq29, rfl, h⟩
 ·
  replace H := ifF c16 H
  refine cond_ff hr (decide_eq_false c16) ?_
  refine wp_skip ?_
  refine end_norm0 rfl hr ?_
  replace h : Fit z (sepL (ob133 B0 p0 (pA B0_arena 0) (.slice va0_rounds p0_rounds.length vc0_rounds) ca5 cc6 ca7 cc8 ca9 cc10 ca11 cc12 ca13 cc14 :: rowH 135 1 own_ptr135 (.slice ca5 p0.live.length cc6) p0.live ix0_live cs0_live :: ro3 ca7 cc8 p0.run_Holders :: rn31 ca9 cc10 p0.run_Reads :: ro2 ca11 cc12 p0.run_Marks :: ro96 ca13 cc14 p0.run_Log :: ob103 B0_arena p0_arena ca1 cc2 ca3 cc4 :: ro2 ca1 cc2 p0_arena.cell :: ro96 ca3 cc4 p0_arena.log :: pts B1 (.cells #[vI p1.number, vI 6, vI p1.op_head_t_Base, vI p1.op_head_t_Frames, vI p1.op_head_frame, vI p1.op_head_stands, vI p1.op_head_code, vI p1.op_head_v, vI p1.op_kind, vI p1.op_slot, vI p1.op_give, vB p1.inOp, vI p1.frame, vI p1.slot, vI p1.value, vI p1.at_, vB p1.child] 137) :: L)) _ := h.sel 10 [1, 2, 3, 4, 5, 6, 7, 8, 9, 0] (by kernel_rfl) (by kernel_rfl)
  obtain ⟨rfl, rfl⟩ := ej2 H
  exact ⟨ca5, cc6, ca7, cc8, ca9, cc10, ca11, cc12, ca13, cc14, rfl, h⟩

/-- (*plunder/frames.join).hold -/
def frames_join_hold (p0 : T_frames_join) (p0_arena : T_cells_Arena) (p0_rounds : List Int) (p1 : T_frames_actor) : Option (T_frames_join × T_frames_actor) :=
  if (p0.run_Holders.length + 1) * 8 ≤ 140737488355328 then if (p0.run_Reads.length + 1) * 24 ≤ 140737488355328 then ob2 (frames_join_read ({ p0 with run_Holders := p0.run_Holders ++ [p1.number], run_Reads := p0.run_Reads ++ [([] : List Int)] }) p0_arena p0_rounds ({ p1 with at_ := 0, child := false })) (fun S23 S24 => some (S23, S24)) else none else none

set_option maxRecDepth 100000 in
set_option maxHeartbeats 4000000 in
theorem frames_join_hold_ok {z w : World} {L : List HProp} {p0 : T_frames_join} {p0_arena : T_cells_Arena} {p0_rounds : List Int} {p1 : T_frames_actor} {B0 : Nat} {B0_arena : Nat} {ca1 : Option Addr} {cc2 : Nat} {ca3 : Option Addr} {cc4 : Nat} {va0_rounds : Option Addr} {vc0_rounds : Nat} {ix0_live : Nat} {cs0_live : List Value} {ca5 : Option Addr} {cc6 : Nat} {ca7 : Option Addr} {cc8 : Nat} {ca9 : Option Addr} {cc10 : Nat} {ca11 : Option Addr} {cc12 : Nat} {ca13 : Option Addr} {cc14 : Nat} {B1 : Nat} {q0 : T_frames_join} {q1 : T_frames_actor} (H : frames_join_hold p0 p0_arena p0_rounds p1 = some (q0, q1)) (h : Fit z (sepL (ob133 B0 p0 (pA B0_arena 0) (.slice va0_rounds p0_rounds.length vc0_rounds) ca5 cc6 ca7 cc8 ca9 cc10 ca11 cc12 ca13 cc14 :: rowH 135 1 own_ptr135 (.slice ca5 p0.live.length cc6) p0.live ix0_live cs0_live :: ro3 ca7 cc8 p0.run_Holders :: rn31 ca9 cc10 p0.run_Reads :: ro2 ca11 cc12 p0.run_Marks :: ro96 ca13 cc14 p0.run_Log :: ob103 B0_arena p0_arena ca1 cc2 ca3 cc4 :: ro2 ca1 cc2 p0_arena.cell :: ro96 ca3 cc4 p0_arena.log :: ob137 B1 p1 :: L)) w) (hv0_rounds : RdRow L 1 encZ_i64 va0_rounds p0_rounds) :
    Calls Try.prog 105 #[pA B0 0, pA B1 0] w fun e w => ∃ caq0_1 : Option Addr, ∃ ccq0_2 : Nat, ∃ caq0_3 : Option Addr, ∃ ccq0_4 : Nat, ∃ caq0_5 : Option Addr, ∃ ccq0_6 : Nat, ∃ caq0_7 : Option Addr, ∃ ccq0_8 : Nat, ∃ caq0_9 : Option Addr, ∃ ccq0_10 : Nat, e = .returned (.tuple #[]) ∧ Fit z (sepL (ob133 B0 q0 (pA B0_arena 0) (.slice va0_rounds p0_rounds.length vc0_rounds) caq0_1 ccq0_2 caq0_3 ccq0_4 caq0_5 ccq0_6 caq0_7 ccq0_8 caq0_9 ccq0_10 :: rowH 135 1 own_ptr135 (.slice caq0_1 q0.live.length ccq0_2) q0.live ix0_live cs0_live :: ro3 caq0_3 ccq0_4 q0.run_Holders :: rn31 caq0_5 ccq0_6 q0.run_Reads :: ro2 caq0_7 ccq0_8 q0.run_Marks :: ro96 caq0_9 ccq0_10 q0.run_Log :: ob103 B0_arena p0_arena ca1 cc2 ca3 cc4 :: ro2 ca1 cc2 p0_arena.cell :: ro96 ca3 cc4 p0_arena.log :: ob137 B1 q1 :: L)) w := by
 unfold frames_join_hold at H
 refine enter Try.func105 rfl 39 rfl rfl [(0, pA B0 0), (1, pA B1 0)] ⟨rfl, rfl, trivial⟩ ?_
 intro j a hr
 refine wp_seq ?_
 obtain ⟨c18, H⟩ := gd H
 refine reg_E (fun w => heldC w B0 10 ([.slice ca7 p0.run_Holders.length cc8]) ∧ heldC w B1 0 ([vI p1.number]) ∧ True) [2, 3, 4, 7, 8] h (by kernel_rfl) ?_; intro w h
 change wpAnyE _ _ _ _ _ _ 16 (Array.replicate 16 false) a w
 have hgo : ∀ w w', CellsGo w w' → (heldC w B0 10 ([.slice ca7 p0.run_Holders.length cc8]) ∧ heldC w B1 0 ([vI p1.number]) ∧ True) → heldC w' B0 10 ([.slice ca7 p0.run_Holders.length cc8]) ∧ heldC w' B1 0 ([vI p1.number]) ∧ True := fun w w' g hD => ⟨heldC_go _ _ _ _ _ g hD.1, heldC_go _ _ _ _ _ g hD.2.1, trivial⟩
 refine evs 15 0 rfl (wn rfl) hr (pA B0 0) fun a hr => ?_
 refine evs 14 1 rfl (wn rfl) hr (pA B0 0) fun a hr => ?_
 refine evDs hgo ⟨⟨h.cell 10 rfl, trivial⟩, ⟨(h.pick 9).cell 0 rfl, trivial⟩, trivial⟩ 13 2 rfl (wn rfl) hr (pA B0 0) fun a hr => ?_
 refine evDs hgo ⟨⟨h.cell 10 rfl, trivial⟩, ⟨(h.pick 9).cell 0 rfl, trivial⟩, trivial⟩ 12 3 rfl (wn rfl) hr (pA B0 8) fun a hr => ?_
 refine evDs hgo ⟨⟨h.cell 10 rfl, trivial⟩, ⟨(h.pick 9).cell 0 rfl, trivial⟩, trivial⟩ 11 4 rfl (wn rfl) hr (pA B0 10) fun a hr => ?_
 refine evs 10 6 rfl (wn rfl) hr (pA B1 0) fun a hr => ?_
 refine evDs hgo ⟨⟨h.cell 10 rfl, trivial⟩, ⟨(h.pick 9).cell 0 rfl, trivial⟩, trivial⟩ 9 7 rfl (wn rfl) hr (pA B1 0) fun a hr => ?_
 refine evDs hgo ⟨⟨h.cell 10 rfl, trivial⟩, ⟨(h.pick 9).cell 0 rfl, trivial⟩, trivial⟩ 8 8 rfl (wn rfl) hr (pA B1 0) fun a hr => ?_
 refine el [2, 3, 4, 7, 8] (b := B0) (off := 10) (cs := [.slice ca7 p0.run_Holders.length cc8]) (fun _ hk => ⟨hk, fun w hD => hD.1⟩) 7 5 rfl (by kernel_rfl) (wn rfl) hr (.slice ca7 p0.run_Holders.length cc8) ⟨h.cell 10 rfl, trivial⟩ (fun w hc => rl rfl (by kernel_rfl) (by kernel_rfl) hc.1) fun a hr => ?_
 refine el [2, 3, 4, 7, 8] (b := B1) (off := 0) (cs := [vI p1.number]) (fun _ hk => ⟨hk, fun w hD => hD.2.1⟩) 6 9 rfl (by kernel_rfl) (wn rfl) hr (vI p1.number) ⟨(h.pick 9).cell 0 rfl, trivial⟩ (fun w hc => rl rfl (by kernel_rfl) (by kernel_rfl) hc.1) fun a hr => ?_
 refine e_one (fuel := 5) (i := 10) (by kernel_rfl) rfl ?_
 refine onew (wn rfl) hr h (fun b => .slice (some ⟨b, 0, none⟩) 1 1) (#[vI p1.number]) 3 fun b15 w a h hr => ?_
 refine wpList_nil ?_; refine then_normal ?_
 refine ⟨fun hE => absurd hE (by decide), ?_⟩
 refine e_one (fuel := 4) (i := 11) (by kernel_rfl) rfl ?_
 replace h : Fit z (sepL (ro3 ca7 cc8 p0.run_Holders :: pts b15 (.cells #[vI p1.number] 3) :: ob133 B0 p0 (pA B0_arena 0) (.slice va0_rounds p0_rounds.length vc0_rounds) ca5 cc6 ca7 cc8 ca9 cc10 ca11 cc12 ca13 cc14 :: rowH 135 1 own_ptr135 (.slice ca5 p0.live.length cc6) p0.live ix0_live cs0_live :: rn31 ca9 cc10 p0.run_Reads :: ro2 ca11 cc12 p0.run_Marks :: ro96 ca13 cc14 p0.run_Log :: ob103 B0_arena p0_arena ca1 cc2 ca3 cc4 :: ro2 ca1 cc2 p0_arena.cell :: ro96 ca3 cc4 p0_arena.log :: ob137 B1 p1 :: L)) _ := h.sel 11 [3, 0, 1, 2, 4, 5, 6, 7, 8, 9, 10] (by kernel_rfl) (by kernel_rfl)
 refine op_append (n0 := p0.run_Holders.length) (c := 1) (bytes := 8) (wn rfl) rfl rfl hr rfl (by kernel_rfl) (by kernel_rfl) encZ_i64_ok (E := 3) (xs := p0.run_Holders) (by kernel_rfl) (by kernel_rfl) h (news := [p1.number]) (m := 1) rfl ((h.pick 1).news rfl) c18 rfl fun ca16 cc17 w a h hr => ?_
 refine wpList_nil ?_; refine then_normal ?_
 replace h : Fit z (sepL (ro3 ca16 cc17 (p0.run_Holders ++ [p1.number]) :: pts b15 (.cells #[vI p1.number] 3) :: ob133 B0 p0 (pA B0_arena 0) (.slice va0_rounds p0_rounds.length vc0_rounds) ca5 cc6 ca7 cc8 ca9 cc10 ca11 cc12 ca13 cc14 :: rowH 135 1 own_ptr135 (.slice ca5 p0.live.length cc6) p0.live ix0_live cs0_live :: rn31 ca9 cc10 p0.run_Reads :: ro2 ca11 cc12 p0.run_Marks :: ro96 ca13 cc14 p0.run_Log :: ob103 B0_arena p0_arena ca1 cc2 ca3 cc4 :: ro2 ca1 cc2 p0_arena.cell :: ro96 ca3 cc4 p0_arena.log :: ob137 B1 p1 :: L)) _ := h
 refine ⟨fun hE => absurd hE (by decide), ?_⟩
 refine evs 3 12 rfl (wn rfl) hr (pA B0 0) fun a hr => ?_
 refine evs 2 13 rfl (wn rfl) hr (pA B0 8) fun a hr => ?_
 refine evs 1 14 rfl (wn rfl) hr (pA B0 10) fun a hr => ?_
 refine e_one (fuel := 0) (i := 15) (by kernel_rfl) rfl ?_
 replace h : Fit z (sepL (ob133 B0 p0 (pA B0_arena 0) (.slice va0_rounds p0_rounds.length vc0_rounds) ca5 cc6 ca7 cc8 ca9 cc10 ca11 cc12 ca13 cc14 :: ro3 ca16 cc17 (p0.run_Holders ++ [p1.number]) :: pts b15 (.cells #[vI p1.number] 3) :: rowH 135 1 own_ptr135 (.slice ca5 p0.live.length cc6) p0.live ix0_live cs0_live :: rn31 ca9 cc10 p0.run_Reads :: ro2 ca11 cc12 p0.run_Marks :: ro96 ca13 cc14 p0.run_Log :: ob103 B0_arena p0_arena ca1 cc2 ca3 cc4 :: ro2 ca1 cc2 p0_arena.cell :: ro96 ca3 cc4 p0_arena.log :: ob137 B1 p1 :: L)) _ := h.sel 11 [2, 0, 1, 3, 4, 5, 6, 7, 8, 9, 10] (by kernel_rfl) (by kernel_rfl)
 refine sto (wn rfl) hr h 10 (.slice ca16 (p0.run_Holders ++ [p1.number]).length cc17) fun w h => ?_
 refine wpList_nil ?_; refine then_normal ?_
 replace h : Fit z (sepL (pts B0 (.cells #[pA B0_arena 0, vI p0.table_Base, vI p0.table_Frames, .slice va0_rounds p0_rounds.length vc0_rounds, vI p0.round, .slice ca5 p0.live.length cc6, vI p0.made, vI p0.got, vB p0.run_Done, vI p0.run_Steps, .slice ca16 (p0.run_Holders ++ [p1.number]).length cc17, .slice ca9 p0.run_Reads.length cc10, .slice ca11 p0.run_Marks.length cc12, .slice ca13 p0.run_Log.length cc14] 133) :: ro3 ca16 cc17 (p0.run_Holders ++ [p1.number]) :: pts b15 (.cells #[vI p1.number] 3) :: rowH 135 1 own_ptr135 (.slice ca5 p0.live.length cc6) p0.live ix0_live cs0_live :: rn31 ca9 cc10 p0.run_Reads :: ro2 ca11 cc12 p0.run_Marks :: ro96 ca13 cc14 p0.run_Log :: ob103 B0_arena p0_arena ca1 cc2 ca3 cc4 :: ro2 ca1 cc2 p0_arena.cell :: ro96 ca3 cc4 p0_arena.log :: ob137 B1 p1 :: L)) _ := h
 refine ⟨fun hE => absurd hE (by decide), ?_⟩
 refine e_end (by kernel_rfl) ?_
 refine then_normal ?_
 refine sr ?_
 refine oo [19, 20, 21, 22, 23] [pA B0 0, pA B0 0, pA B0 0, pA B0 8, pA B0 11] hr fun a hr => ?_
 refine ld (wn rfl) hr (.slice ca9 p0.run_Reads.length cc10) (h.cell 11 rfl) fun a hr => ?_
 refine onew (wn rfl) hr h (fun b => .slice (some ⟨b, 0, none⟩) 1 1) (#[.slice none 0 0]) 31 fun b19 w a h hr => ?_
 replace h : Fit z (sepL (rowOf 2 1 encZ_i64 (.slice none 0 0) ([] : List Int) :: pts b19 (.cells #[.slice none 0 0] 31) :: pts B0 (.cells #[pA B0_arena 0, vI p0.table_Base, vI p0.table_Frames, .slice va0_rounds p0_rounds.length vc0_rounds, vI p0.round, .slice ca5 p0.live.length cc6, vI p0.made, vI p0.got, vB p0.run_Done, vI p0.run_Steps, .slice ca16 (p0.run_Holders ++ [p1.number]).length cc17, .slice ca9 p0.run_Reads.length cc10, .slice ca11 p0.run_Marks.length cc12, .slice ca13 p0.run_Log.length cc14] 133) :: ro3 ca16 cc17 (p0.run_Holders ++ [p1.number]) :: pts b15 (.cells #[vI p1.number] 3) :: rowH 135 1 own_ptr135 (.slice ca5 p0.live.length cc6) p0.live ix0_live cs0_live :: rn31 ca9 cc10 p0.run_Reads :: ro2 ca11 cc12 p0.run_Marks :: ro96 ca13 cc14 p0.run_Log :: ob103 B0_arena p0_arena ca1 cc2 ca3 cc4 :: ro2 ca1 cc2 p0_arena.cell :: ro96 ca3 cc4 p0_arena.log :: ob137 B1 p1 :: L)) _ := h.row_nil
 replace h := own_sl31_sh (x := ([] : List Int)) h
 obtain ⟨c20, H⟩ := gd H
 replace h : Fit z (sepL (rn31 ca9 cc10 p0.run_Reads :: own_sl31 ([] : List Int) [.slice none 0 0] :: pts b19 (.cells #[.slice none 0 0] 31) :: pts B0 (.cells #[pA B0_arena 0, vI p0.table_Base, vI p0.table_Frames, .slice va0_rounds p0_rounds.length vc0_rounds, vI p0.round, .slice ca5 p0.live.length cc6, vI p0.made, vI p0.got, vB p0.run_Done, vI p0.run_Steps, .slice ca16 (p0.run_Holders ++ [p1.number]).length cc17, .slice ca9 p0.run_Reads.length cc10, .slice ca11 p0.run_Marks.length cc12, .slice ca13 p0.run_Log.length cc14] 133) :: ro3 ca16 cc17 (p0.run_Holders ++ [p1.number]) :: pts b15 (.cells #[vI p1.number] 3) :: rowH 135 1 own_ptr135 (.slice ca5 p0.live.length cc6) p0.live ix0_live cs0_live :: ro2 ca11 cc12 p0.run_Marks :: ro96 ca13 cc14 p0.run_Log :: ob103 B0_arena p0_arena ca1 cc2 ca3 cc4 :: ro2 ca1 cc2 p0_arena.cell :: ro96 ca3 cc4 p0_arena.log :: ob137 B1 p1 :: L)) _ := h.sel 13 [6, 0, 1, 2, 3, 4, 5, 7, 8, 9, 10, 11, 12] (by kernel_rfl) (by kernel_rfl)
 refine op_append_N (n0 := p0.run_Reads.length) (c := 1) (bytes := 24) (sz := 1) (wn rfl) rfl rfl hr rfl (by kernel_rfl) (by kernel_rfl) (E := 31) (xs := p0.run_Reads) (by kernel_rfl) (by kernel_rfl) rfl rfl rfl h ((h.pick 2).news rfl) c20 rfl fun ca21 cc22 w a h hr => ?_
 refine oo [27, 28, 29] [pA B0 0, pA B0 8, pA B0 11] hr fun a hr => ?_
 replace h : Fit z (sepL (pts B0 (.cells #[pA B0_arena 0, vI p0.table_Base, vI p0.table_Frames, .slice va0_rounds p0_rounds.length vc0_rounds, vI p0.round, .slice ca5 p0.live.length cc6, vI p0.made, vI p0.got, vB p0.run_Done, vI p0.run_Steps, .slice ca16 (p0.run_Holders ++ [p1.number]).length cc17, .slice ca9 p0.run_Reads.length cc10, .slice ca11 p0.run_Marks.length cc12, .slice ca13 p0.run_Log.length cc14] 133) :: rn31 ca21 cc22 (p0.run_Reads ++ [([] : List Int)]) :: pts b19 (.cells #[.slice none 0 0] 31) :: ro3 ca16 cc17 (p0.run_Holders ++ [p1.number]) :: pts b15 (.cells #[vI p1.number] 3) :: rowH 135 1 own_ptr135 (.slice ca5 p0.live.length cc6) p0.live ix0_live cs0_live :: ro2 ca11 cc12 p0.run_Marks :: ro96 ca13 cc14 p0.run_Log :: ob103 B0_arena p0_arena ca1 cc2 ca3 cc4 :: ro2 ca1 cc2 p0_arena.cell :: ro96 ca3 cc4 p0_arena.log :: ob137 B1 p1 :: L)) _ := h.sel 12 [2, 0, 1, 3, 4, 5, 6, 7, 8, 9, 10, 11] (by kernel_rfl) (by kernel_rfl)
 refine sto (wn rfl) hr h 11 (.slice ca21 (p0.run_Reads ++ [([] : List Int)]).length cc22) fun w h => ?_
 refine wpList_nil ?_
 replace h : Fit z (sepL (pts B0 (.cells #[pA B0_arena 0, vI p0.table_Base, vI p0.table_Frames, .slice va0_rounds p0_rounds.length vc0_rounds, vI p0.round, .slice ca5 p0.live.length cc6, vI p0.made, vI p0.got, vB p0.run_Done, vI p0.run_Steps, .slice ca16 (p0.run_Holders ++ [p1.number]).length cc17, .slice ca21 (p0.run_Reads ++ [([] : List Int)]).length cc22, .slice ca11 p0.run_Marks.length cc12, .slice ca13 p0.run_Log.length cc14] 133) :: rn31 ca21 cc22 (p0.run_Reads ++ [([] : List Int)]) :: pts b19 (.cells #[.slice none 0 0] 31) :: ro3 ca16 cc17 (p0.run_Holders ++ [p1.number]) :: pts b15 (.cells #[vI p1.number] 3) :: rowH 135 1 own_ptr135 (.slice ca5 p0.live.length cc6) p0.live ix0_live cs0_live :: ro2 ca11 cc12 p0.run_Marks :: ro96 ca13 cc14 p0.run_Log :: ob103 B0_arena p0_arena ca1 cc2 ca3 cc4 :: ro2 ca1 cc2 p0_arena.cell :: ro96 ca3 cc4 p0_arena.log :: ob137 B1 p1 :: L)) _ := h
 refine then_normal ?_
 refine sr ?_
 refine oo [30, 31, 32] [pA B1 0, pA B1 0, pA B1 16] hr fun a hr => ?_
 replace h : Fit z (sepL (ob137 B1 p1 :: pts B0 (.cells #[pA B0_arena 0, vI p0.table_Base, vI p0.table_Frames, .slice va0_rounds p0_rounds.length vc0_rounds, vI p0.round, .slice ca5 p0.live.length cc6, vI p0.made, vI p0.got, vB p0.run_Done, vI p0.run_Steps, .slice ca16 (p0.run_Holders ++ [p1.number]).length cc17, .slice ca21 (p0.run_Reads ++ [([] : List Int)]).length cc22, .slice ca11 p0.run_Marks.length cc12, .slice ca13 p0.run_Log.length cc14] 133) :: rn31 ca21 cc22 (p0.run_Reads ++ [([] : List Int)]) :: pts b19 (.cells #[.slice none 0 0] 31) :: ro3 ca16 cc17 (p0.run_Holders ++ [p1.number]) :: pts b15 (.cells #[vI p1.number] 3) :: rowH 135 1 own_ptr135 (.slice ca5 p0.live.length cc6) p0.live ix0_live cs0_live :: ro2 ca11 cc12 p0.run_Marks :: ro96 ca13 cc14 p0.run_Log :: ob103 B0_arena p0_arena ca1 cc2 ca3 cc4 :: ro2 ca1 cc2 p0_arena.cell :: ro96 ca3 cc4 p0_arena.log :: L)) _ := h.sel 12 [11, 0, 1, 2, 3, 4, 5, 6, 7, 8, 9, 10] (by kernel_rfl) (by kernel_rfl)
 refine sto (wn rfl) hr h 16 (vB false) fun w h => ?_
 refine wpList_nil ?_
 replace h : Fit z (sepL (pts B1 (.cells #[vI p1.number, vI p1.about, vI p1.op_head_t_Base, vI p1.op_head_t_Frames, vI p1.op_head_frame, vI p1.op_head_stands, vI p1.op_head_code, vI p1.op_head_v, vI p1.op_kind, vI p1.op_slot, vI p1.op_give, vB p1.inOp, vI p1.frame, vI p1.slot, vI p1.value, vI p1.at_, vB false] 137) :: pts B0 (.cells #[pA B0_arena 0, vI p0.table_Base, vI p0.table_Frames, .slice va0_rounds p0_rounds.length vc0_rounds, vI p0.round, .slice ca5 p0.live.length cc6, vI p0.made, vI p0.got, vB p0.run_Done, vI p0.run_Steps, .slice ca16 (p0.run_Holders ++ [p1.number]).length cc17, .slice ca21 (p0.run_Reads ++ [([] : List Int)]).length cc22, .slice ca11 p0.run_Marks.length cc12, .slice ca13 p0.run_Log.length cc14] 133) :: rn31 ca21 cc22 (p0.run_Reads ++ [([] : List Int)]) :: pts b19 (.cells #[.slice none 0 0] 31) :: ro3 ca16 cc17 (p0.run_Holders ++ [p1.number]) :: pts b15 (.cells #[vI p1.number] 3) :: rowH 135 1 own_ptr135 (.slice ca5 p0.live.length cc6) p0.live ix0_live cs0_live :: ro2 ca11 cc12 p0.run_Marks :: ro96 ca13 cc14 p0.run_Log :: ob103 B0_arena p0_arena ca1 cc2 ca3 cc4 :: ro2 ca1 cc2 p0_arena.cell :: ro96 ca3 cc4 p0_arena.log :: L)) _ := h
 refine then_normal ?_
 refine sr ?_
 refine oo [33, 34, 35] [pA B1 0, pA B1 0, pA B1 15] hr fun a hr => ?_
 refine sto (wn rfl) hr h 15 (vI 0) fun w h => ?_
 refine wpList_nil ?_
 replace h : Fit z (sepL (pts B1 (.cells #[vI p1.number, vI p1.about, vI p1.op_head_t_Base, vI p1.op_head_t_Frames, vI p1.op_head_frame, vI p1.op_head_stands, vI p1.op_head_code, vI p1.op_head_v, vI p1.op_kind, vI p1.op_slot, vI p1.op_give, vB p1.inOp, vI p1.frame, vI p1.slot, vI p1.value, vI 0, vB false] 137) :: pts B0 (.cells #[pA B0_arena 0, vI p0.table_Base, vI p0.table_Frames, .slice va0_rounds p0_rounds.length vc0_rounds, vI p0.round, .slice ca5 p0.live.length cc6, vI p0.made, vI p0.got, vB p0.run_Done, vI p0.run_Steps, .slice ca16 (p0.run_Holders ++ [p1.number]).length cc17, .slice ca21 (p0.run_Reads ++ [([] : List Int)]).length cc22, .slice ca11 p0.run_Marks.length cc12, .slice ca13 p0.run_Log.length cc14] 133) :: rn31 ca21 cc22 (p0.run_Reads ++ [([] : List Int)]) :: pts b19 (.cells #[.slice none 0 0] 31) :: ro3 ca16 cc17 (p0.run_Holders ++ [p1.number]) :: pts b15 (.cells #[vI p1.number] 3) :: rowH 135 1 own_ptr135 (.slice ca5 p0.live.length cc6) p0.live ix0_live cs0_live :: ro2 ca11 cc12 p0.run_Marks :: ro96 ca13 cc14 p0.run_Log :: ob103 B0_arena p0_arena ca1 cc2 ca3 cc4 :: ro2 ca1 cc2 p0_arena.cell :: ro96 ca3 cc4 p0_arena.log :: L)) _ := h
 refine then_normal ?_
 refine wp_region_lit ?_
 obtain ⟨S23, S24, e25, H⟩ := bd2 H
 refine oo [36, 37] [pA B0 0, pA B1 0] hr fun a hr => ?_
 replace h : Fit z (sepL (pts B0 (.cells #[pA B0_arena 0, vI p0.table_Base, vI p0.table_Frames, .slice va0_rounds p0_rounds.length vc0_rounds, vI p0.round, .slice ca5 p0.live.length cc6, vI p0.made, vI p0.got, vB p0.run_Done, vI p0.run_Steps, .slice ca16 (p0.run_Holders ++ [p1.number]).length cc17, .slice ca21 (p0.run_Reads ++ [([] : List Int)]).length cc22, .slice ca11 p0.run_Marks.length cc12, .slice ca13 p0.run_Log.length cc14] 133) :: rowH 135 1 own_ptr135 (.slice ca5 p0.live.length cc6) p0.live ix0_live cs0_live :: ro3 ca16 cc17 (p0.run_Holders ++ [p1.number]) :: rn31 ca21 cc22 (p0.run_Reads ++ [([] : List Int)]) :: ro2 ca11 cc12 p0.run_Marks :: ro96 ca13 cc14 p0.run_Log :: ob103 B0_arena p0_arena ca1 cc2 ca3 cc4 :: ro2 ca1 cc2 p0_arena.cell :: ro96 ca3 cc4 p0_arena.log :: pts B1 (.cells #[vI p1.number, vI p1.about, vI p1.op_head_t_Base, vI p1.op_head_t_Frames, vI p1.op_head_frame, vI p1.op_head_stands, vI p1.op_head_code, vI p1.op_head_v, vI p1.op_kind, vI p1.op_slot, vI p1.op_give, vB p1.inOp, vI p1.frame, vI p1.slot, vI p1.value, vI 0, vB false] 137) :: pts b19 (.cells #[.slice none 0 0] 31) :: pts b15 (.cells #[vI p1.number] 3) :: L)) _ := h.sel 12 [1, 6, 4, 2, 7, 8, 9, 10, 11, 0, 3, 5] (by kernel_rfl) (by kernel_rfl)
 have hc := frames_join_read_ok (va0_rounds := va0_rounds) (vc0_rounds := vc0_rounds) (hv0_rounds := (RdRow.up 2 hv0_rounds)) (H := e25) (h := h)
 refine cl (wn rfl) hr hc ?_; clear hc h
 rintro _ w ⟨caq26, ccq27, caq28, ccq29, caq30, ccq31, caq32, ccq33, caq34, ccq35, rfl, h⟩; refine ⟨_, rfl, fun a hr => ?_⟩
 refine wpList_nil ?_
 refine end_norm0 rfl hr ?_
 replace h : Fit z (sepL (ob133 B0 S23 (pA B0_arena 0) (.slice va0_rounds p0_rounds.length vc0_rounds) caq26 ccq27 caq28 ccq29 caq30 ccq31 caq32 ccq33 caq34 ccq35 :: rowH 135 1 own_ptr135 (.slice caq26 S23.live.length ccq27) S23.live ix0_live cs0_live :: ro3 caq28 ccq29 S23.run_Holders :: rn31 caq30 ccq31 S23.run_Reads :: ro2 caq32 ccq33 S23.run_Marks :: ro96 caq34 ccq35 S23.run_Log :: ob103 B0_arena p0_arena ca1 cc2 ca3 cc4 :: ro2 ca1 cc2 p0_arena.cell :: ro96 ca3 cc4 p0_arena.log :: ob137 B1 S24 :: L)) _ := h.sel 12 [0, 1, 2, 3, 4, 5, 6, 7, 8, 9] (by kernel_rfl) (by kernel_rfl)
 obtain ⟨rfl, rfl⟩ := ej2 H
 exact ⟨caq26, ccq27, caq28, ccq29, caq30, ccq31, caq32, ccq33, caq34, ccq35, rfl, h⟩

/-- (*plunder/frames.join).next -/
def frames_join_next (p0 : T_frames_join) (p0_arena : T_cells_Arena) (p0_rounds : List Int) (p1 : T_frames_actor) (p2 : Int) (p3 : Int) : Option (Bool × T_frames_join × T_frames_actor) :=
  (if p1.about = 0 then some (true, p0, { p1 with about := 1 }) else (if p1.about = 1 then (if p1.child = true then some (true, p0, { p1 with about := 5 }) else ob2 (frames_join_enter p0 p0_arena p0_rounds p1) (fun S18 S19 => some (true, S18, S19))) else (if p1.about = 2 then some (true, p0, { p1 with about := 3, frame := p3 }) else (if p1.about = 3 then ob1 (frames_join_join_join p0 p0_arena p0_rounds (⟨0, 1, 0, 0, 0, 0, 0, 0, 0, 0, 0, false, p1.frame, p1.at_, wi ((wi ((100 : Int) * p0.round)) + p1.at_), 0, true⟩ : T_frames_actor)) (fun S34 => ob1 (frames_join_fork S34 p0_arena p0_rounds ({ p1 with at_ := wi (p1.at_ + 1) })) (fun S46 => some (true, S34, S46))) else (if p1.about = 4 then (if p2 = 12 then some (false, p0, p1) else ob2 (frames_join_hold p0 p0_arena p0_rounds p1) (fun S50 S51 => some (true, S50, S51))) else (if p1.about = 5 then (if p2 = 10 then some (false, p0, p1) else ob2 (frames_join_hold p0 p0_arena p0_rounds p1) (fun S65 S66 => some (true, S65, S66))) else (if p1.about = 6 then if inr_ (wi (((p0.run_Reads.length : Nat) : Int) - 1)) p0.run_Reads.length then if ((at_ p0.run_Reads (wi (((p0.run_Reads.length : Nat) : Int) - 1)).toNat).length + 1) * 8 ≤ 140737488355328 then ob2 (frames_join_read ({ p0 with run_Reads := p0.run_Reads.set (wi (((p0.run_Reads.length : Nat) : Int) - 1)).toNat ((at_ p0.run_Reads (wi (((p0.run_Reads.length : Nat) : Int) - 1)).toNat) ++ [p3]) }) p0_arena p0_rounds ({ p1 with at_ := wi (p1.at_ + 1) })) (fun S89 S90 => some (true, S89, S90)) else none else none else some (true, p0, p1))))))))

set_option maxRecDepth 100000 in
set_option maxHeartbeats 4000000 in
theorem frames_join_next_ok {z w : World} {L : List HProp} {p0 : T_frames_join} {p0_arena : T_cells_Arena} {p0_rounds : List Int} {p1 : T_frames_actor} {p2 : Int} {p3 : Int} {B0 : Nat} {B0_arena : Nat} {ca1 : Option Addr} {cc2 : Nat} {ca3 : Option Addr} {cc4 : Nat} {va0_rounds : Option Addr} {vc0_rounds : Nat} {ix0_live : Nat} {cs0_live : List Value} {ca5 : Option Addr} {cc6 : Nat} {ca7 : Option Addr} {cc8 : Nat} {ca9 : Option Addr} {cc10 : Nat} {ca11 : Option Addr} {cc12 : Nat} {ca13 : Option Addr} {cc14 : Nat} {B1 : Nat} {r0 : Bool} {q0 : T_frames_join} {q1 : T_frames_actor} (H : frames_join_next p0 p0_arena p0_rounds p1 p2 p3 = some (r0, q0, q1)) (h : Fit z (sepL (ob133 B0 p0 (pA B0_arena 0) (.slice va0_rounds p0_rounds.length vc0_rounds) ca5 cc6 ca7 cc8 ca9 cc10 ca11 cc12 ca13 cc14 :: rowH 135 1 own_ptr135 (.slice ca5 p0.live.length cc6) p0.live ix0_live cs0_live :: ro3 ca7 cc8 p0.run_Holders :: rn31 ca9 cc10 p0.run_Reads :: ro2 ca11 cc12 p0.run_Marks :: ro96 ca13 cc14 p0.run_Log :: ob103 B0_arena p0_arena ca1 cc2 ca3 cc4 :: ro2 ca1 cc2 p0_arena.cell :: ro96 ca3 cc4 p0_arena.log :: ob137 B1 p1 :: L)) w) (hv0_rounds : RdRow L 1 encZ_i64 va0_rounds p0_rounds) :
    Calls Try.prog 97 #[pA B0 0, pA B1 0, vI p2, vI p3] w fun e w => ∃ caq0_1 : Option Addr, ∃ ccq0_2 : Nat, ∃ caq0_3 : Option Addr, ∃ ccq0_4 : Nat, ∃ caq0_5 : Option Addr, ∃ ccq0_6 : Nat, ∃ caq0_7 : Option Addr, ∃ ccq0_8 : Nat, ∃ caq0_9 : Option Addr, ∃ ccq0_10 : Nat, e = .returned (vB r0) ∧ Fit z (sepL (ob133 B0 q0 (pA B0_arena 0) (.slice va0_rounds p0_rounds.length vc0_rounds) caq0_1 ccq0_2 caq0_3 ccq0_4 caq0_5 ccq0_6 caq0_7 ccq0_8 caq0_9 ccq0_10 :: rowH 135 1 own_ptr135 (.slice caq0_1 q0.live.length ccq0_2) q0.live ix0_live cs0_live :: ro3 caq0_3 ccq0_4 q0.run_Holders :: rn31 caq0_5 ccq0_6 q0.run_Reads :: ro2 caq0_7 ccq0_8 q0.run_Marks :: ro96 caq0_9 ccq0_10 q0.run_Log :: ob103 B0_arena p0_arena ca1 cc2 ca3 cc4 :: ro2 ca1 cc2 p0_arena.cell :: ro96 ca3 cc4 p0_arena.log :: ob137 B1 q1 :: L)) w := by
 unfold frames_join_next at H
 refine enter Try.func97 rfl 125 rfl rfl [(0, pA B0 0), (1, pA B1 0), (2, vI p2), (3, vI p3)] ⟨rfl, rfl, rfl, rfl, trivial⟩ ?_
 intro j a hr
 refine sr ?_
 refine o1 hr (vB false) fun a hr => ?_
 refine ln ?_
 refine wp_seq ?_
 refine sr ?_
 refine oo [10, 11, 12] [pA B1 0, pA B1 0, pA B1 1] hr fun a hr => ?_
 refine ld (wn rfl) hr (vI p1.about) ((h.pick 9).cell 1 rfl) fun a hr => ?_
 refine ln ?_
 refine wp_block ?_
 refine sr ?_
 refine oo [15, 14] [vB (p1.about == 0), vB (p1.about == 0)] hr fun a hr => ?_
 refine ln ?_
 by_cases c15 : p1.about = 0
 ·
  replace H := ifT c15 H
  refine cond_tt hr (beq_iff_eq.mpr c15) ?_
  refine wp_region_lit ?_
  refine oo [16, 17, 18] [pA B1 0, pA B1 0, pA B1 1] hr fun a hr => ?_
  replace h : Fit z (sepL (ob137 B1 p1 :: ob133 B0 p0 (pA B0_arena 0) (.slice va0_rounds p0_rounds.length vc0_rounds) ca5 cc6 ca7 cc8 ca9 cc10 ca11 cc12 ca13 cc14 :: rowH 135 1 own_ptr135 (.slice ca5 p0.live.length cc6) p0.live ix0_live cs0_live :: ro3 ca7 cc8 p0.run_Holders :: rn31 ca9 cc10 p0.run_Reads :: ro2 ca11 cc12 p0.run_Marks :: ro96 ca13 cc14 p0.run_Log :: ob103 B0_arena p0_arena ca1 cc2 ca3 cc4 :: ro2 ca1 cc2 p0_arena.cell :: ro96 ca3 cc4 p0_arena.log :: L)) _ := h.sel 10 [9, 0, 1, 2, 3, 4, 5, 6, 7, 8] (by kernel_rfl) (by kernel_rfl)
  refine sto (wn rfl) hr h 1 (vI 1) fun w h => ?_
  refine wpList_nil ?_
  replace h : Fit z (sepL (pts B1 (.cells #[vI p1.number, vI 1, vI p1.op_head_t_Base, vI p1.op_head_t_Frames, vI p1.op_head_frame, vI p1.op_head_stands, vI p1.op_head_code, vI p1.op_head_v, vI p1.op_kind, vI p1.op_slot, vI p1.op_give, vB p1.inOp, vI p1.frame, vI p1.slot, vI p1.value, vI p1.at_, vB p1.child] 137) :: ob133 B0 p0 (pA B0_arena 0) (.slice va0_rounds p0_rounds.length vc0_rounds) ca5 cc6 ca7 cc8 ca9 cc10 ca11 cc12 ca13 cc14 :: rowH 135 1 own_ptr135 (.slice ca5 p0.live.length cc6) p0.live ix0_live cs0_live :: ro3 ca7 cc8 p0.run_Holders :: rn31 ca9 cc10 p0.run_Reads :: ro2 ca11 cc12 p0.run_Marks :: ro96 ca13 cc14 p0.run_Log :: ob103 B0_arena p0_arena ca1 cc2 ca3 cc4 :: ro2 ca1 cc2 p0_arena.cell :: ro96 ca3 cc4 p0_arena.log :: L)) _ := h
  refine blk_normal ?_
  refine then_normal ?_
  refine sr ?_
  refine o1 hr (vB true) fun a hr => ?_
  refine ln ?_
  refine wp_ret ?_
  refine end_ret1 (v := vB true) rfl hr (by kernel_rfl) ?_
  replace h : Fit z (sepL (ob133 B0 p0 (pA B0_arena 0) (.slice va0_rounds p0_rounds.length vc0_rounds) ca5 cc6 ca7 cc8 ca9 cc10 ca11 cc12 ca13 cc14 :: rowH 135 1 own_ptr135 (.slice ca5 p0.live.length cc6) p0.live ix0_live cs0_live :: ro3 ca7 cc8 p0.run_Holders :: rn31 ca9 cc10 p0.run_Reads :: ro2 ca11 cc12 p0.run_Marks :: ro96 ca13 cc14 p0.run_Log :: ob103 B0_arena p0_arena ca1 cc2 ca3 cc4 :: ro2 ca1 cc2 p0_arena.cell :: ro96 ca3 cc4 p0_arena.log :: pts B1 (.cells #[vI p1.number, vI 1, vI p1.op_head_t_Base, vI p1.op_head_t_Frames, vI p1.op_head_frame, vI p1.op_head_stands, vI p1.op_head_code, vI p1.op_head_v, vI p1.op_kind, vI p1.op_slot, vI p1.op_give, vB p1.inOp, vI p1.frame, vI p1.slot, vI p1.value, vI p1.at_, vB p1.child] 137) :: L)) _ := h.sel 10 [1, 2, 3, 4, 5, 6, 7, 8, 9, 0] (by kernel_rfl) (by kernel_rfl)
  obtain ⟨rfl, rfl, rfl⟩ := ej3 H
  exact ⟨ca5, cc6, ca7, cc8, ca9, cc10, ca11, cc12, ca13, cc14, rfl, h⟩
 ·
  replace H := ifF c15 H
  refine cond_ff hr (beq_eq_false_iff_ne.mpr c15) ?_
  refine sr ?_
  refine oo [20, 19] [vB (p1.about == 1), vB (p1.about == 1)] hr fun a hr => ?_
  refine ln ?_
  by_cases c16 : p1.about = 1
  ·
   replace H := ifT c16 H
   refine cond_tt hr (beq_iff_eq.mpr c16) ?_
   refine sr ?_
   refine oo [21, 22, 23] [pA B1 0, pA B1 0, pA B1 16] hr fun a hr => ?_
   refine ld (wn rfl) hr (vB p1.child) ((h.pick 9).cell 16 rfl) fun a hr => ?_
   refine ln ?_
   by_cases c17 : p1.child = true
   ·
    replace H := ifT c17 H
    refine cond_tt hr (c17) ?_
    refine wp_region_lit ?_
    refine oo [25, 26, 27] [pA B1 0, pA B1 0, pA B1 1] hr fun a hr => ?_
    replace h : Fit z (sepL (ob137 B1 p1 :: ob133 B0 p0 (pA B0_arena 0) (.slice va0_rounds p0_rounds.length vc0_rounds) ca5 cc6 ca7 cc8 ca9 cc10 ca11 cc12 ca13 cc14 :: rowH 135 1 own_ptr135 (.slice ca5 p0.live.length cc6) p0.live ix0_live cs0_live :: ro3 ca7 cc8 p0.run_Holders :: rn31 ca9 cc10 p0.run_Reads :: ro2 ca11 cc12 p0.run_Marks :: ro96 ca13 cc14 p0.run_Log :: ob103 B0_arena p0_arena ca1 cc2 ca3 cc4 :: ro2 ca1 cc2 p0_arena.cell :: ro96 ca3 cc4 p0_arena.log :: L)) _ := h.sel 10 [9, 0, 1, 2, 3, 4, 5, 6, 7, 8] (by kernel_rfl) (by kernel_rfl)
    refine sto (wn rfl) hr h 1 (vI 5) fun w h => ?_
    refine wpList_nil ?_
    replace h : Fit z (sepL (pts B1 (.cells #[vI p1.number, vI 5, vI p1.op_head_t_Base, vI p1.op_head_t_Frames, vI p1.op_head_frame, vI p1.op_head_stands, vI p1.op_head_code, vI p1.op_head_v, vI p1.op_kind, vI p1.op_slot, vI p1.op_give, vB p1.inOp, vI p1.frame, vI p1.slot, vI p1.value, vI p1.at_, vB p1.child] 137) :: ob133 B0 p0 (pA B0_arena 0) (.slice va0_rounds p0_rounds.length vc0_rounds) ca5 cc6 ca7 cc8 ca9 cc10 ca11 cc12 ca13 cc14 :: rowH 135 1 own_ptr135 (.slice ca5 p0.live.length cc6) p0.live ix0_live cs0_live :: ro3 ca7 cc8 p0.run_Holders :: rn31 ca9 cc10 p0.run_Reads :: ro2 ca11 cc12 p0.run_Marks :: ro96 ca13 cc14 p0.run_Log :: ob103 B0_arena p0_arena ca1 cc2 ca3 cc4 :: ro2 ca1 cc2 p0_arena.cell :: ro96 ca3 cc4 p0_arena.log :: L)) _ := h
    refine blk_normal ?_
    refine then_normal ?_
    refine sr ?_
    refine o1 hr (vB true) fun a hr => ?_
    refine ln ?_
    refine wp_ret ?_
    refine end_ret1 (v := vB true) rfl hr (by kernel_rfl) ?_
    replace h : Fit z (sepL (ob133 B0 p0 (pA B0_arena 0) (.slice va0_rounds p0_rounds.length vc0_rounds) ca5 cc6 ca7 cc8 ca9 cc10 ca11 cc12 ca13 cc14 :: rowH 135 1 own_ptr135 (.slice ca5 p0.live.length cc6) p0.live ix0_live cs0_live :: ro3 ca7 cc8 p0.run_Holders :: rn31 ca9 cc10 p0.run_Reads :: ro2 ca11 cc12 p0.run_Marks :: ro96 ca13 cc14 p0.run_Log :: ob103 B0_arena p0_arena ca1 cc2 ca3 cc4 :: ro2 ca1 cc2 p0_arena.cell :: ro96 ca3 cc4 p0_arena.log :: pts B1 (.cells #[vI p1.number, vI 5, vI p1.op_head_t_Base, vI p1.op_head_t_Frames, vI p1.op_head_frame, vI p1.op_head_stands, vI p1.op_head_code, vI p1.op_head_v, vI p1.op_kind, vI p1.op_slot, vI p1.op_give, vB p1.inOp, vI p1.frame, vI p1.slot, vI p1.value, vI p1.at_, vB p1.child] 137) :: L)) _ := h.sel 10 [1, 2, 3, 4, 5, 6, 7, 8, 9, 0] (by kernel_rfl) (by kernel_rfl)
    obtain ⟨rfl, rfl, rfl⟩ := ej3 H
    exact ⟨ca5, cc6, ca7, cc8, ca9, cc10, ca11, cc12, ca13, cc14, rfl, h⟩
   ·
    replace H := ifF c17 H
    refine cond_ff hr (bF c17) ?_
    refine wp_region_lit ?_
    obtain ⟨S18, S19, e20, H⟩ := bd2 H
    refine oo [28, 29] [pA B0 0, pA B1 0] hr fun a hr => ?_
    have hc := frames_join_enter_ok (va0_rounds := va0_rounds) (vc0_rounds := vc0_rounds) (hv0_rounds := (RdRow.up 0 hv0_rounds)) (H := e20) (h := h)
    refine cl (wn rfl) hr hc ?_; clear hc h
    rintro _ w ⟨caq21, ccq22, caq23, ccq24, caq25, ccq26, caq27, ccq28, caq29, ccq30, rfl, h⟩; refine ⟨_, rfl, fun a hr => ?_⟩
    refine wpList_nil ?_
    refine blk_normal ?_
    refine then_normal ?_
    refine sr ?_
    refine o1 hr (vB true) fun a hr => ?_
    refine ln ?_
    refine wp_ret ?_
    refine end_ret1 (v := vB true) rfl hr (by kernel_rfl) ?_
    obtain ⟨rfl, rfl, rfl⟩ := ej3 H
    exact ⟨caq21, ccq22, caq23, ccq24, caq25, ccq26, caq27, ccq28, caq29, ccq30, rfl, h⟩
  ·
   replace H := ifF c16 H
   refine cond_ff hr (beq_eq_false_iff_ne.mpr c16) ?_
   refine sr ?_
   refine oo [32, 31] [vB (p1.about == 2), vB (p1.about == 2)] hr fun a hr => ?_
   refine ln ?_
   by_cases c31 : p1.about = 2
   ·
    replace H := ifT c31 H
    refine cond_tt hr (beq_iff_eq.mpr c31) ?_
    refine sr ?_
    refine oo [33, 34, 35, 36] [pA B1 0, vI p3, pA B1 0, pA B1 12] hr fun a hr => ?_
    replace h : Fit z (sepL (ob137 B1 p1 :: ob133 B0 p0 (pA B0_arena 0) (.slice va0_rounds p0_rounds.length vc0_rounds) ca5 cc6 ca7 cc8 ca9 cc10 ca11 cc12 ca13 cc14 :: rowH 135 1 own_ptr135 (.slice ca5 p0.live.length cc6) p0.live ix0_live cs0_live :: ro3 ca7 cc8 p0.run_Holders :: rn31 ca9 cc10 p0.run_Reads :: ro2 ca11 cc12 p0.run_Marks :: ro96 ca13 cc14 p0.run_Log :: ob103 B0_arena p0_arena ca1 cc2 ca3 cc4 :: ro2 ca1 cc2 p0_arena.cell :: ro96 ca3 cc4 p0_arena.log :: L)) _ := h.sel 10 [9, 0, 1, 2, 3, 4, 5, 6, 7, 8] (by kernel_rfl) (by kernel_rfl)
    refine sto (wn rfl) hr h 12 (vI p3) fun w h => ?_
    refine wpList_nil ?_
    replace h : Fit z (sepL (pts B1 (.cells #[vI p1.number, vI p1.about, vI p1.op_head_t_Base, vI p1.op_head_t_Frames, vI p1.op_head_frame, vI p1.op_head_stands, vI p1.op_head_code, vI p1.op_head_v, vI p1.op_kind, vI p1.op_slot, vI p1.op_give, vB p1.inOp, vI p3, vI p1.slot, vI p1.value, vI p1.at_, vB p1.child] 137) :: ob133 B0 p0 (pA B0_arena 0) (.slice va0_rounds p0_rounds.length vc0_rounds) ca5 cc6 ca7 cc8 ca9 cc10 ca11 cc12 ca13 cc14 :: rowH 135 1 own_ptr135 (.slice ca5 p0.live.length cc6) p0.live ix0_live cs0_live :: ro3 ca7 cc8 p0.run_Holders :: rn31 ca9 cc10 p0.run_Reads :: ro2 ca11 cc12 p0.run_Marks :: ro96 ca13 cc14 p0.run_Log :: ob103 B0_arena p0_arena ca1 cc2 ca3 cc4 :: ro2 ca1 cc2 p0_arena.cell :: ro96 ca3 cc4 p0_arena.log :: L)) _ := h
    refine then_normal ?_
    refine wp_region_lit ?_
    refine oo [37, 38, 39] [pA B1 0, pA B1 0, pA B1 1] hr fun a hr => ?_
    refine sto (wn rfl) hr h 1 (vI 3) fun w h => ?_
    refine wpList_nil ?_
    replace h : Fit z (sepL (pts B1 (.cells #[vI p1.number, vI 3, vI p1.op_head_t_Base, vI p1.op_head_t_Frames, vI p1.op_head_frame, vI p1.op_head_stands, vI p1.op_head_code, vI p1.op_head_v, vI p1.op_kind, vI p1.op_slot, vI p1.op_give, vB p1.inOp, vI p3, vI p1.slot, vI p1.value, vI p1.at_, vB p1.child] 137) :: ob133 B0 p0 (pA B0_arena 0) (.slice va0_rounds p0_rounds.length vc0_rounds) ca5 cc6 ca7 cc8 ca9 cc10 ca11 cc12 ca13 cc14 :: rowH 135 1 own_ptr135 (.slice ca5 p0.live.length cc6) p0.live ix0_live cs0_live :: ro3 ca7 cc8 p0.run_Holders :: rn31 ca9 cc10 p0.run_Reads :: ro2 ca11 cc12 p0.run_Marks :: ro96 ca13 cc14 p0.run_Log :: ob103 B0_arena p0_arena ca1 cc2 ca3 cc4 :: ro2 ca1 cc2 p0_arena.cell :: ro96 ca3 cc4 p0_arena.log :: L)) _ := h
    refine blk_normal ?_
    refine then_normal ?_
    refine sr ?_
    refine o1 hr (vB true) fun a hr => ?_
    refine ln ?_
    refine wp_ret ?_
    refine end_ret1 (v := vB true) rfl hr (by kernel_rfl) ?_
    replace h : Fit z (sepL (ob133 B0 p0 (pA B0_arena 0) (.slice va0_rounds p0_rounds.length vc0_rounds) ca5 cc6 ca7 cc8 ca9 cc10 ca11 cc12 ca13 cc14 :: rowH 135 1 own_ptr135 (.slice ca5 p0.live.length cc6) p0.live ix0_live cs0_live :: ro3 ca7 cc8 p0.run_Holders :: rn31 ca9 cc10 p0.run_Reads :: ro2 ca11 cc12 p0.run_Marks :: ro96 ca13 cc14 p0.run_Log :: ob103 B0_arena p0_arena ca1 cc2 ca3 cc4 :: ro2 ca1 cc2 p0_arena.cell :: ro96 ca3 cc4 p0_arena.log :: pts B1 (.cells #[vI p1.number, vI 3, vI p1.op_head_t_Base, vI p1.op_head_t_Frames, vI p1.op_head_frame, vI p1.op_head_stands, vI p1.op_head_code, vI p1.op_head_v, vI p1.op_kind, vI p1.op_slot, vI p1.op_give, vB p1.inOp, vI p3, vI p1.slot, vI p1.value, vI p1.at_, vB p1.child] 137) :: L)) _ := h.sel 10 [1, 2, 3, 4, 5, 6, 7, 8, 9, 0] (by kernel_rfl) (by kernel_rfl)
    obtain ⟨rfl, rfl, rfl⟩ := ej3 H
    exact ⟨ca5, cc6, ca7, cc8, ca9, cc10, ca11, cc12, ca13, cc14, rfl, h⟩
   ·
    replace H := ifF c31 H
    refine cond_ff hr (beq_eq_false_iff_ne.mpr c31) ?_
    refine sr ?_
    refine oo [41, 40] [vB (p1.about == 3), vB (p1.about == 3)] hr fun a hr => ?_
    refine ln ?_
    by_cases c32 : p1.about = 3
    ·
     replace H := ifT c32 H
     refine cond_tt hr (beq_iff_eq.mpr c32) ?_
     refine wp_seq ?_
     obtain ⟨S34, e35, H⟩ := bd1 H
     refine reg_E (fun w => heldC w B1 12 ([vI p1.frame]) ∧ heldC w B1 15 ([vI p1.at_]) ∧ heldC w B0 4 ([vI p0.round]) ∧ heldC w B1 15 ([vI p1.at_]) ∧ True) [2, 3, 6, 7, 10, 11, 13, 15, 16, 18] h (by kernel_rfl) ?_; intro w h
     change wpAnyE _ _ _ _ _ _ 22 (Array.replicate 22 false) a w
     have hgo : ∀ w w', CellsGo w w' → (heldC w B1 12 ([vI p1.frame]) ∧ heldC w B1 15 ([vI p1.at_]) ∧ heldC w B0 4 ([vI p0.round]) ∧ heldC w B1 15 ([vI p1.at_]) ∧ True) → heldC w' B1 12 ([vI p1.frame]) ∧ heldC w' B1 15 ([vI p1.at_]) ∧ heldC w' B0 4 ([vI p0.round]) ∧ heldC w' B1 15 ([vI p1.at_]) ∧ True := fun w w' g hD => ⟨heldC_go _ _ _ _ _ g hD.1, heldC_go _ _ _ _ _ g hD.2.1, heldC_go _ _ _ _ _ g hD.2.2.1, heldC_go _ _ _ _ _ g hD.2.2.2.1, trivial⟩
     refine evs 21 0 rfl (wn rfl) hr (pA B0 0) fun a hr => ?_
     refine evs 20 1 rfl (wn rfl) hr (pA B1 0) fun a hr => ?_
     refine evDs hgo ⟨⟨(h.pick 9).cell 12 rfl, trivial⟩, ⟨(h.pick 9).cell 15 rfl, trivial⟩, ⟨h.cell 4 rfl, trivial⟩, ⟨(h.pick 9).cell 15 rfl, trivial⟩, trivial⟩ 19 2 rfl (wn rfl) hr (pA B1 0) fun a hr => ?_
     refine evDs hgo ⟨⟨(h.pick 9).cell 12 rfl, trivial⟩, ⟨(h.pick 9).cell 15 rfl, trivial⟩, ⟨h.cell 4 rfl, trivial⟩, ⟨(h.pick 9).cell 15 rfl, trivial⟩, trivial⟩ 18 3 rfl (wn rfl) hr (pA B1 12) fun a hr => ?_
     refine evs 17 5 rfl (wn rfl) hr (pA B1 0) fun a hr => ?_
     refine evDs hgo ⟨⟨(h.pick 9).cell 12 rfl, trivial⟩, ⟨(h.pick 9).cell 15 rfl, trivial⟩, ⟨h.cell 4 rfl, trivial⟩, ⟨(h.pick 9).cell 15 rfl, trivial⟩, trivial⟩ 16 6 rfl (wn rfl) hr (pA B1 0) fun a hr => ?_
     refine evDs hgo ⟨⟨(h.pick 9).cell 12 rfl, trivial⟩, ⟨(h.pick 9).cell 15 rfl, trivial⟩, ⟨h.cell 4 rfl, trivial⟩, ⟨(h.pick 9).cell 15 rfl, trivial⟩, trivial⟩ 15 7 rfl (wn rfl) hr (pA B1 15) fun a hr => ?_
     refine evs 14 9 rfl (wn rfl) hr (pA B0 0) fun a hr => ?_
     refine evDs hgo ⟨⟨(h.pick 9).cell 12 rfl, trivial⟩, ⟨(h.pick 9).cell 15 rfl, trivial⟩, ⟨h.cell 4 rfl, trivial⟩, ⟨(h.pick 9).cell 15 rfl, trivial⟩, trivial⟩ 13 10 rfl (wn rfl) hr (pA B0 0) fun a hr => ?_
     refine evDs hgo ⟨⟨(h.pick 9).cell 12 rfl, trivial⟩, ⟨(h.pick 9).cell 15 rfl, trivial⟩, ⟨h.cell 4 rfl, trivial⟩, ⟨(h.pick 9).cell 15 rfl, trivial⟩, trivial⟩ 12 11 rfl (wn rfl) hr (pA B0 4) fun a hr => ?_
     refine evs 11 14 rfl (wn rfl) hr (pA B1 0) fun a hr => ?_
     refine evDs hgo ⟨⟨(h.pick 9).cell 12 rfl, trivial⟩, ⟨(h.pick 9).cell 15 rfl, trivial⟩, ⟨h.cell 4 rfl, trivial⟩, ⟨(h.pick 9).cell 15 rfl, trivial⟩, trivial⟩ 10 15 rfl (wn rfl) hr (pA B1 0) fun a hr => ?_
     refine evDs hgo ⟨⟨(h.pick 9).cell 12 rfl, trivial⟩, ⟨(h.pick 9).cell 15 rfl, trivial⟩, ⟨h.cell 4 rfl, trivial⟩, ⟨(h.pick 9).cell 15 rfl, trivial⟩, trivial⟩ 9 16 rfl (wn rfl) hr (pA B1 15) fun a hr => ?_
     refine el [2, 3, 6, 7, 10, 11, 13, 15, 16, 18] (b := B1) (off := 12) (cs := [vI p1.frame]) (fun _ hk => ⟨hk, fun w hD => hD.1⟩) 8 4 rfl (by kernel_rfl) (wn rfl) hr (vI p1.frame) ⟨(h.pick 9).cell 12 rfl, trivial⟩ (fun w hc => rl rfl (by kernel_rfl) (by kernel_rfl) hc.1) fun a hr => ?_
     refine el [2, 3, 6, 7, 10, 11, 13, 15, 16, 18] (b := B1) (off := 15) (cs := [vI p1.at_]) (fun _ hk => ⟨hk, fun w hD => hD.2.1⟩) 7 8 rfl (by kernel_rfl) (wn rfl) hr (vI p1.at_) ⟨(h.pick 9).cell 15 rfl, trivial⟩ (fun w hc => rl rfl (by kernel_rfl) (by kernel_rfl) hc.1) fun a hr => ?_
     refine el [2, 3, 6, 7, 10, 11, 13, 15, 16, 18] (b := B0) (off := 4) (cs := [vI p0.round]) (fun _ hk => ⟨hk, fun w hD => hD.2.2.1⟩) 6 12 rfl (by kernel_rfl) (wn rfl) hr (vI p0.round) ⟨h.cell 4 rfl, trivial⟩ (fun w hc => rl rfl (by kernel_rfl) (by kernel_rfl) hc.1) fun a hr => ?_
     refine evDs hgo ⟨⟨(h.pick 9).cell 12 rfl, trivial⟩, ⟨(h.pick 9).cell 15 rfl, trivial⟩, ⟨h.cell 4 rfl, trivial⟩, ⟨(h.pick 9).cell 15 rfl, trivial⟩, trivial⟩ 5 13 rfl (wn rfl) hr (vI (wi ((100 : Int) * p0.round))) fun a hr => ?_
     refine el [2, 3, 6, 7, 10, 11, 13, 15, 16, 18] (b := B1) (off := 15) (cs := [vI p1.at_]) (fun _ hk => ⟨hk, fun w hD => hD.2.2.2.1⟩) 4 17 rfl (by kernel_rfl) (wn rfl) hr (vI p1.at_) ⟨(h.pick 9).cell 15 rfl, trivial⟩ (fun w hc => rl rfl (by kernel_rfl) (by kernel_rfl) hc.1) fun a hr => ?_
     refine evDs hgo ⟨⟨(h.pick 9).cell 12 rfl, trivial⟩, ⟨(h.pick 9).cell 15 rfl, trivial⟩, ⟨h.cell 4 rfl, trivial⟩, ⟨(h.pick 9).cell 15 rfl, trivial⟩, trivial⟩ 3 18 rfl (wn rfl) hr (vI (wi ((wi ((100 : Int) * p0.round)) + p1.at_))) fun a hr => ?_
     refine evs 2 19 rfl (wn rfl) hr (.agg #[vI 0, vI 1, vI 0, vI 0, vI 0, vI 0, vI 0, vI 0, vI 0, vI 0, vI 0, vB false, vI p1.frame, vI p1.at_, vI (wi ((wi ((100 : Int) * p0.round)) + p1.at_)), vI 0, vB true]) fun a hr => ?_
     refine e_one (fuel := 1) (i := 20) (by kernel_rfl) rfl ?_
     refine onew (wn rfl) hr h nb (#[vI 0, vI 1, vI 0, vI 0, vI 0, vI 0, vI 0, vI 0, vI 0, vI 0, vI 0, vB false, vI p1.frame, vI p1.at_, vI (wi ((wi ((100 : Int) * p0.round)) + p1.at_)), vI 0, vB true]) 137 fun b33 w a h hr => ?_
     refine wpList_nil ?_; refine then_normal ?_
     refine ⟨fun hE => absurd hE (by decide), ?_⟩
     refine e_one (fuel := 0) (i := 21) (by kernel_rfl) rfl ?_
     replace h : Fit z (sepL (ob133 B0 p0 (pA B0_arena 0) (.slice va0_rounds p0_rounds.length vc0_rounds) ca5 cc6 ca7 cc8 ca9 cc10 ca11 cc12 ca13 cc14 :: rowH 135 1 own_ptr135 (.slice ca5 p0.live.length cc6) p0.live ix0_live cs0_live :: ro3 ca7 cc8 p0.run_Holders :: rn31 ca9 cc10 p0.run_Reads :: ro2 ca11 cc12 p0.run_Marks :: ro96 ca13 cc14 p0.run_Log :: ob103 B0_arena p0_arena ca1 cc2 ca3 cc4 :: ro2 ca1 cc2 p0_arena.cell :: ro96 ca3 cc4 p0_arena.log :: pts b33 (.cells #[vI 0, vI 1, vI 0, vI 0, vI 0, vI 0, vI 0, vI 0, vI 0, vI 0, vI 0, vB false, vI p1.frame, vI p1.at_, vI (wi ((wi ((100 : Int) * p0.round)) + p1.at_)), vI 0, vB true] 137) :: ob137 B1 p1 :: L)) _ := h.sel 11 [1, 2, 3, 4, 5, 6, 7, 8, 9, 0, 10] (by kernel_rfl) (by kernel_rfl)
     have hc := frames_join_join_join_ok (va0_rounds := va0_rounds) (vc0_rounds := vc0_rounds) (hv0_rounds := (RdRow.up 1 hv0_rounds)) (H := e35) (h := h)
     refine cl (wn rfl) hr hc ?_; clear hc h
     rintro _ w ⟨caq36, ccq37, caq38, ccq39, caq40, ccq41, caq42, ccq43, caq44, ccq45, rfl, h⟩; refine ⟨_, rfl, fun a hr => ?_⟩
     refine wpList_nil ?_; refine then_normal ?_
     refine ⟨fun hE => absurd hE (by decide), ?_⟩
     refine e_end (by kernel_rfl) ?_
     refine then_normal ?_
     refine sr ?_
     refine oo [64, 65, 66] [pA B1 0, pA B1 0, pA B1 15] hr fun a hr => ?_
     refine ld (wn rfl) hr (vI p1.at_) ((h.pick 9).cell 15 rfl) fun a hr => ?_
     refine oo [68, 69, 70] [vI (wi (p1.at_ + 1)), pA B1 0, pA B1 15] hr fun a hr => ?_
     replace h : Fit z (sepL (ob137 B1 p1 :: ob133 B0 S34 (pA B0_arena 0) (.slice va0_rounds p0_rounds.length vc0_rounds) caq36 ccq37 caq38 ccq39 caq40 ccq41 caq42 ccq43 caq44 ccq45 :: rowH 135 1 own_ptr135 (.slice caq36 S34.live.length ccq37) S34.live ix0_live cs0_live :: ro3 caq38 ccq39 S34.run_Holders :: rn31 caq40 ccq41 S34.run_Reads :: ro2 caq42 ccq43 S34.run_Marks :: ro96 caq44 ccq45 S34.run_Log :: ob103 B0_arena p0_arena ca1 cc2 ca3 cc4 :: ro2 ca1 cc2 p0_arena.cell :: ro96 ca3 cc4 p0_arena.log :: L)) _ := h.sel 10 [9, 0, 1, 2, 3, 4, 5, 6, 7, 8] (by kernel_rfl) (by kernel_rfl)
     refine sto (wn rfl) hr h 15 (vI (wi (p1.at_ + 1))) fun w h => ?_
     refine wpList_nil ?_
     replace h : Fit z (sepL (pts B1 (.cells #[vI p1.number, vI p1.about, vI p1.op_head_t_Base, vI p1.op_head_t_Frames, vI p1.op_head_frame, vI p1.op_head_stands, vI p1.op_head_code, vI p1.op_head_v, vI p1.op_kind, vI p1.op_slot, vI p1.op_give, vB p1.inOp, vI p1.frame, vI p1.slot, vI p1.value, vI (wi (p1.at_ + 1)), vB p1.child] 137) :: ob133 B0 S34 (pA B0_arena 0) (.slice va0_rounds p0_rounds.length vc0_rounds) caq36 ccq37 caq38 ccq39 caq40 ccq41 caq42 ccq43 caq44 ccq45 :: rowH 135 1 own_ptr135 (.slice caq36 S34.live.length ccq37) S34.live ix0_live cs0_live :: ro3 caq38 ccq39 S34.run_Holders :: rn31 caq40 ccq41 S34.run_Reads :: ro2 caq42 ccq43 S34.run_Marks :: ro96 caq44 ccq45 S34.run_Log :: ob103 B0_arena p0_arena ca1 cc2 ca3 cc4 :: ro2 ca1 cc2 p0_arena.cell :: ro96 ca3 cc4 p0_arena.log :: L)) _ := h
     refine then_normal ?_
     refine wp_region_lit ?_
     obtain ⟨S46, e47, H⟩ := bd1 H
     refine oo [71, 72] [pA B0 0, pA B1 0] hr fun a hr => ?_
     replace h : Fit z (sepL (ob133 B0 S34 (pA B0_arena 0) (.slice va0_rounds p0_rounds.length vc0_rounds) caq36 ccq37 caq38 ccq39 caq40 ccq41 caq42 ccq43 caq44 ccq45 :: rowH 135 1 own_ptr135 (.slice caq36 S34.live.length ccq37) S34.live ix0_live cs0_live :: ro3 caq38 ccq39 S34.run_Holders :: rn31 caq40 ccq41 S34.run_Reads :: ro2 caq42 ccq43 S34.run_Marks :: ro96 caq44 ccq45 S34.run_Log :: ob103 B0_arena p0_arena ca1 cc2 ca3 cc4 :: ro2 ca1 cc2 p0_arena.cell :: ro96 ca3 cc4 p0_arena.log :: pts B1 (.cells #[vI p1.number, vI p1.about, vI p1.op_head_t_Base, vI p1.op_head_t_Frames, vI p1.op_head_frame, vI p1.op_head_stands, vI p1.op_head_code, vI p1.op_head_v, vI p1.op_kind, vI p1.op_slot, vI p1.op_give, vB p1.inOp, vI p1.frame, vI p1.slot, vI p1.value, vI (wi (p1.at_ + 1)), vB p1.child] 137) :: L)) _ := h.sel 10 [1, 2, 3, 4, 5, 6, 7, 8, 9, 0] (by kernel_rfl) (by kernel_rfl)
     have hc := frames_join_fork_ok (va0_rounds := va0_rounds) (vc0_rounds := vc0_rounds) (hv0_rounds := (RdRow.up 0 hv0_rounds)) (H := e47) (h := h)
     refine cl (wn rfl) hr hc ?_; clear hc h
     rintro _ w ⟨rfl, h⟩; refine ⟨_, rfl, fun a hr => ?_⟩
     refine wpList_nil ?_
     refine blk_normal ?_
     refine then_normal ?_
     refine sr ?_
     refine o1 hr (vB true) fun a hr => ?_
     refine ln ?_
     refine wp_ret ?_
     refine end_ret1 (v := vB true) rfl hr (by kernel_rfl) ?_
     obtain ⟨rfl, rfl, rfl⟩ := ej3 H
     exact ⟨caq36, ccq37, caq38, ccq39, caq40, ccq41, caq42, ccq43, caq44, ccq45, rfl, h⟩
    ·
     replace H := ifF c32 H
     refine cond_ff hr (beq_eq_false_iff_ne.mpr c32) ?_
     refine sr ?_
     refine oo [75, 74] [vB (p1.about == 4), vB (p1.about == 4)] hr fun a hr => ?_
     refine ln ?_
     by_cases c48 : p1.about = 4
     ·
      replace H := ifT c48 H
      refine cond_tt hr (beq_iff_eq.mpr c48) ?_
      refine wp_seq ?_
      refine sr ?_
      refine oo [76, 77] [vI p2, vB (p2 == 12)] hr fun a hr => ?_
      refine ln ?_
      by_cases c49 : p2 = 12
      ·
       replace H := ifT c49 H
       refine cond_tt hr (beq_iff_eq.mpr c49) ?_
       refine sr ?_
       refine o1 hr (vB false) fun a hr => ?_
       refine ln ?_
       refine wp_ret ?_
       refine then_ret ?_
       refine blk_ret ?_
       refine then_ret ?_
       refine end_ret1 (v := vB false) rfl hr (by kernel_rfl) ?_
       obtain ⟨rfl, rfl, rfl⟩ := ej3 H
       exact ⟨ca5, cc6, ca7, cc8, ca9, cc10, ca11, cc12, ca13, cc14, rfl, h⟩
      ·
       replace H := ifF c49 H
       refine cond_ff hr (beq_eq_false_iff_ne.mpr c49) ?_
       refine wp_skip ?_
       refine then_normal ?_
       refine wp_region_lit ?_
       obtain ⟨S50, S51, e52, H⟩ := bd2 H
       refine oo [78, 79] [pA B0 0, pA B1 0] hr fun a hr => ?_
       have hc := frames_join_hold_ok (va0_rounds := va0_rounds) (vc0_rounds := vc0_rounds) (hv0_rounds := (RdRow.up 0 hv0_rounds)) (H := e52) (h := h)
       refine cl (wn rfl) hr hc ?_; clear hc h
       rintro _ w ⟨caq53, ccq54, caq55, ccq56, caq57, ccq58, caq59, ccq60, caq61, ccq62, rfl, h⟩; refine ⟨_, rfl, fun a hr => ?_⟩
       refine wpList_nil ?_
       refine blk_normal ?_
       refine then_normal ?_
       refine sr ?_
       refine o1 hr (vB true) fun a hr => ?_
       refine ln ?_
       refine wp_ret ?_
       refine end_ret1 (v := vB true) rfl hr (by kernel_rfl) ?_
       obtain ⟨rfl, rfl, rfl⟩ := ej3 H
       exact ⟨caq53, ccq54, caq55, ccq56, caq57, ccq58, caq59, ccq60, caq61, ccq62, rfl, h⟩
     ·
      replace H := ifF c48 H
      refine cond_ff hr (beq_eq_false_iff_ne.mpr c48) ?_
      refine sr ?_
      refine oo [82, 81] [vB (p1.about == 5), vB (p1.about == 5)] hr fun a hr => ?_
      refine ln ?_
      by_cases c63 : p1.about = 5
      ·
       replace H := ifT c63 H
       refine cond_tt hr (beq_iff_eq.mpr c63) ?_
       refine wp_seq ?_
       refine sr ?_
       refine oo [83, 84] [vI p2, vB (p2 == 10)] hr fun a hr => ?_
       refine ln ?_
       by_cases c64 : p2 = 10
       ·
        replace H := ifT c64 H
        refine cond_tt hr (beq_iff_eq.mpr c64) ?_
        refine sr ?_
        refine o1 hr (vB false) fun a hr => ?_
        refine ln ?_
        refine wp_ret ?_
        refine then_ret ?_
        refine blk_ret ?_
        refine then_ret ?_
        refine end_ret1 (v := vB false) rfl hr (by kernel_rfl) ?_
        obtain ⟨rfl, rfl, rfl⟩ := ej3 H
        exact ⟨ca5, cc6, ca7, cc8, ca9, cc10, ca11, cc12, ca13, cc14, rfl, h⟩
       ·
        replace H := ifF c64 H
        refine cond_ff hr (beq_eq_false_iff_ne.mpr c64) ?_
        refine wp_skip ?_
        refine then_normal ?_
        refine wp_region_lit ?_
        obtain ⟨S65, S66, e67, H⟩ := bd2 H
        refine oo [85, 86] [pA B0 0, pA B1 0] hr fun a hr => ?_
        have hc := frames_join_hold_ok (va0_rounds := va0_rounds) (vc0_rounds := vc0_rounds) (hv0_rounds := (RdRow.up 0 hv0_rounds)) (H := e67) (h := h)
        refine cl (wn rfl) hr hc ?_; clear hc h
        rintro _ w ⟨caq68, ccq69, caq70, ccq71, caq72, ccq73, caq74, ccq75, caq76, ccq77, rfl, h⟩; refine ⟨_, rfl, fun a hr => ?_⟩
        refine wpList_nil ?_
        refine blk_normal ?_
        refine then_normal ?_
        refine sr ?_
        refine o1 hr (vB true) fun a hr => ?_
        refine ln ?_
        refine wp_ret ?_
        refine end_ret1 (v := vB true) rfl hr (by kernel_rfl) ?_
        obtain ⟨rfl, rfl, rfl⟩ := ej3 H
        exact ⟨caq68, ccq69, caq70, ccq71, caq72, ccq73, caq74, ccq75, caq76, ccq77, rfl, h⟩
      ·
       replace H := ifF c63 H
       refine cond_ff hr (beq_eq_false_iff_ne.mpr c63) ?_
       refine sr ?_
       refine oo [89, 88] [vB (p1.about == 6), vB (p1.about == 6)] hr fun a hr => ?_
       refine ln ?_
       by_cases c78 : p1.about = 6
       ·
        replace H := ifT c78 H
        refine cond_tt hr (beq_iff_eq.mpr c78) ?_
        refine sr ?_
        refine oo [90, 91, 92, 93] [pA B0 0, pA B0 0, pA B0 8, pA B0 11] hr fun a hr => ?_
        refine ld (wn rfl) hr (.slice ca9 p0.run_Reads.length cc10) (h.cell 11 rfl) fun a hr => ?_
        refine oo [95, 96, 9] [vI ((p0.run_Reads.length : Nat) : Int), vI (wi (((p0.run_Reads.length : Nat) : Int) - 1)), vI (wi (((p0.run_Reads.length : Nat) : Int) - 1))] hr fun a hr => ?_
        refine ln ?_
        refine wp_seq ?_
        obtain ⟨c79, H⟩ := gd H
        obtain ⟨cs83, h⟩ := (h.pick 3).rowN_take (at_ok c79)
        obtain ⟨ca80, cc81, e82, h⟩ := own_sl31_op (h.pick 1); subst e82
        replace h : Fit z (sepL (ro2 ca80 cc81 (at_ p0.run_Reads (wi (((p0.run_Reads.length : Nat) : Int) - 1)).toNat) :: rowH 31 1 own_sl31 (.slice ca9 p0.run_Reads.length cc10) p0.run_Reads (wi (((p0.run_Reads.length : Nat) : Int) - 1)).toNat [.slice ca80 (at_ p0.run_Reads (wi (((p0.run_Reads.length : Nat) : Int) - 1)).toNat).length cc81] :: ob133 B0 p0 (pA B0_arena 0) (.slice va0_rounds p0_rounds.length vc0_rounds) ca5 cc6 ca7 cc8 ca9 cc10 ca11 cc12 ca13 cc14 :: rowH 135 1 own_ptr135 (.slice ca5 p0.live.length cc6) p0.live ix0_live cs0_live :: ro3 ca7 cc8 p0.run_Holders :: ro2 ca11 cc12 p0.run_Marks :: ro96 ca13 cc14 p0.run_Log :: ob103 B0_arena p0_arena ca1 cc2 ca3 cc4 :: ro2 ca1 cc2 p0_arena.cell :: ro96 ca3 cc4 p0_arena.log :: ob137 B1 p1 :: L)) _ := h
        obtain ⟨c87, H⟩ := gd H
        refine reg_E (fun w => heldC w B0 11 ([.slice ca9 p0.run_Reads.length cc10]) ∧ heldC w B0 11 ([.slice ca9 p0.run_Reads.length cc10]) ∧ heldC w (blk ca9) ((wi (((p0.run_Reads.length : Nat) : Int) - 1)).toNat * 1) ([.slice ca80 (at_ p0.run_Reads (wi (((p0.run_Reads.length : Nat) : Int) - 1)).toNat).length cc81]) ∧ True) [1, 2, 3, 7, 8, 9, 12, 16] h (by kernel_rfl) ?_; intro w h
        change wpAnyE _ _ _ _ _ _ 19 (Array.replicate 19 false) a w
        have hgo : ∀ w w', CellsGo w w' → (heldC w B0 11 ([.slice ca9 p0.run_Reads.length cc10]) ∧ heldC w B0 11 ([.slice ca9 p0.run_Reads.length cc10]) ∧ heldC w (blk ca9) ((wi (((p0.run_Reads.length : Nat) : Int) - 1)).toNat * 1) ([.slice ca80 (at_ p0.run_Reads (wi (((p0.run_Reads.length : Nat) : Int) - 1)).toNat).length cc81]) ∧ True) → heldC w' B0 11 ([.slice ca9 p0.run_Reads.length cc10]) ∧ heldC w' B0 11 ([.slice ca9 p0.run_Reads.length cc10]) ∧ heldC w' (blk ca9) ((wi (((p0.run_Reads.length : Nat) : Int) - 1)).toNat * 1) ([.slice ca80 (at_ p0.run_Reads (wi (((p0.run_Reads.length : Nat) : Int) - 1)).toNat).length cc81]) ∧ True := fun w w' g hD => ⟨heldC_go _ _ _ _ _ g hD.1, heldC_go _ _ _ _ _ g hD.2.1, heldC_go _ _ _ _ _ g hD.2.2.1, trivial⟩
        refine evs 18 0 rfl (wn rfl) hr (pA B0 0) fun a hr => ?_
        refine evDs hgo ⟨⟨(h.pick 2).cell 11 rfl, trivial⟩, ⟨(h.pick 2).cell 11 rfl, trivial⟩, ⟨(h.pick 1).rowH_cell (by decide) (f := 0) rfl, trivial⟩, trivial⟩ 17 1 rfl (wn rfl) hr (pA B0 0) fun a hr => ?_
        refine evDs hgo ⟨⟨(h.pick 2).cell 11 rfl, trivial⟩, ⟨(h.pick 2).cell 11 rfl, trivial⟩, ⟨(h.pick 1).rowH_cell (by decide) (f := 0) rfl, trivial⟩, trivial⟩ 16 2 rfl (wn rfl) hr (pA B0 8) fun a hr => ?_
        refine evDs hgo ⟨⟨(h.pick 2).cell 11 rfl, trivial⟩, ⟨(h.pick 2).cell 11 rfl, trivial⟩, ⟨(h.pick 1).rowH_cell (by decide) (f := 0) rfl, trivial⟩, trivial⟩ 15 3 rfl (wn rfl) hr (pA B0 11) fun a hr => ?_
        refine evs 14 5 rfl (wn rfl) hr (vI (wi (((p0.run_Reads.length : Nat) : Int) - 1))) fun a hr => ?_
        refine evs 13 6 rfl (wn rfl) hr (pA B0 0) fun a hr => ?_
        refine evDs hgo ⟨⟨(h.pick 2).cell 11 rfl, trivial⟩, ⟨(h.pick 2).cell 11 rfl, trivial⟩, ⟨(h.pick 1).rowH_cell (by decide) (f := 0) rfl, trivial⟩, trivial⟩ 12 7 rfl (wn rfl) hr (pA B0 0) fun a hr => ?_
        refine evDs hgo ⟨⟨(h.pick 2).cell 11 rfl, trivial⟩, ⟨(h.pick 2).cell 11 rfl, trivial⟩, ⟨(h.pick 1).rowH_cell (by decide) (f := 0) rfl, trivial⟩, trivial⟩ 11 8 rfl (wn rfl) hr (pA B0 8) fun a hr => ?_
        refine evDs hgo ⟨⟨(h.pick 2).cell 11 rfl, trivial⟩, ⟨(h.pick 2).cell 11 rfl, trivial⟩, ⟨(h.pick 1).rowH_cell (by decide) (f := 0) rfl, trivial⟩, trivial⟩ 10 9 rfl (wn rfl) hr (pA B0 11) fun a hr => ?_
        refine evs 9 11 rfl (wn rfl) hr (vI (wi (((p0.run_Reads.length : Nat) : Int) - 1))) fun a hr => ?_
        refine evs 8 14 rfl (wn rfl) hr (vI p3) fun a hr => ?_
        refine el [1, 2, 3, 7, 8, 9, 12, 16] (b := B0) (off := 11) (cs := [.slice ca9 p0.run_Reads.length cc10]) (fun _ hk => ⟨hk, fun w hD => hD.1⟩) 7 4 rfl (by kernel_rfl) (wn rfl) hr (.slice ca9 p0.run_Reads.length cc10) ⟨(h.pick 2).cell 11 rfl, trivial⟩ (fun w hc => rl rfl (by kernel_rfl) (by kernel_rfl) hc.1) fun a hr => ?_
        refine el [1, 2, 3, 7, 8, 9, 12, 16] (b := B0) (off := 11) (cs := [.slice ca9 p0.run_Reads.length cc10]) (fun _ hk => ⟨hk, fun w hD => hD.2.1⟩) 6 10 rfl (by kernel_rfl) (wn rfl) hr (.slice ca9 p0.run_Reads.length cc10) ⟨(h.pick 2).cell 11 rfl, trivial⟩ (fun w hc => rl rfl (by kernel_rfl) (by kernel_rfl) hc.1) fun a hr => ?_
        refine evD hgo ⟨⟨(h.pick 2).cell 11 rfl, trivial⟩, ⟨(h.pick 2).cell 11 rfl, trivial⟩, ⟨(h.pick 1).rowH_cell (by decide) (f := 0) rfl, trivial⟩, trivial⟩ 5 12 rfl (by kernel_rfl) (wn rfl) hr (pA (blk ca9) ((wi (((p0.run_Reads.length : Nat) : Int) - 1)).toNat * 1)) (fun w => ri_rowH (k := .i64) (E := 31) rfl (by kernel_rfl) (by kernel_rfl) (by kernel_rfl) (by kernel_rfl) (h.pick 1) c79) fun a hr => ?_
        refine el [1, 2, 3, 7, 8, 9, 12, 16] (b := blk ca9) (off := (wi (((p0.run_Reads.length : Nat) : Int) - 1)).toNat * 1) (cs := [.slice ca80 (at_ p0.run_Reads (wi (((p0.run_Reads.length : Nat) : Int) - 1)).toNat).length cc81]) (fun _ hk => ⟨hk, fun w hD => hD.2.2.1⟩) 4 13 rfl (by kernel_rfl) (wn rfl) hr (.slice ca80 (at_ p0.run_Reads (wi (((p0.run_Reads.length : Nat) : Int) - 1)).toNat).length cc81) ⟨(h.pick 1).rowH_cell (by decide) (f := 0) rfl, trivial⟩ (fun w hc => rl rfl (by kernel_rfl) (by kernel_rfl) hc.1) fun a hr => ?_
        refine e_one (fuel := 3) (i := 15) (by kernel_rfl) rfl ?_
        refine onew (wn rfl) hr h (fun b => .slice (some ⟨b, 0, none⟩) 1 1) (#[vI p3]) 2 fun b84 w a h hr => ?_
        refine wpList_nil ?_; refine then_normal ?_
        refine ⟨fun hE => absurd hE (by decide), ?_⟩
        refine e_one (fuel := 2) (i := 16) (by kernel_rfl) rfl ?_
        replace h : Fit z (sepL (ro2 ca80 cc81 (at_ p0.run_Reads (wi (((p0.run_Reads.length : Nat) : Int) - 1)).toNat) :: pts b84 (.cells #[vI p3] 2) :: rowH 31 1 own_sl31 (.slice ca9 p0.run_Reads.length cc10) p0.run_Reads (wi (((p0.run_Reads.length : Nat) : Int) - 1)).toNat [.slice ca80 (at_ p0.run_Reads (wi (((p0.run_Reads.length : Nat) : Int) - 1)).toNat).length cc81] :: ob133 B0 p0 (pA B0_arena 0) (.slice va0_rounds p0_rounds.length vc0_rounds) ca5 cc6 ca7 cc8 ca9 cc10 ca11 cc12 ca13 cc14 :: rowH 135 1 own_ptr135 (.slice ca5 p0.live.length cc6) p0.live ix0_live cs0_live :: ro3 ca7 cc8 p0.run_Holders :: ro2 ca11 cc12 p0.run_Marks :: ro96 ca13 cc14 p0.run_Log :: ob103 B0_arena p0_arena ca1 cc2 ca3 cc4 :: ro2 ca1 cc2 p0_arena.cell :: ro96 ca3 cc4 p0_arena.log :: ob137 B1 p1 :: L)) _ := h.sel 12 [1, 0, 2, 3, 4, 5, 6, 7, 8, 9, 10, 11] (by kernel_rfl) (by kernel_rfl)
        refine op_append (n0 := (at_ p0.run_Reads (wi (((p0.run_Reads.length : Nat) : Int) - 1)).toNat).length) (c := 1) (bytes := 8) (wn rfl) rfl rfl hr rfl (by kernel_rfl) (by kernel_rfl) encZ_i64_ok (E := 2) (xs := (at_ p0.run_Reads (wi (((p0.run_Reads.length : Nat) : Int) - 1)).toNat)) (by kernel_rfl) (by kernel_rfl) h (news := [p3]) (m := 1) rfl ((h.pick 1).news rfl) c87 rfl fun ca85 cc86 w a h hr => ?_
        refine wpList_nil ?_; refine then_normal ?_
        replace h : Fit z (sepL (ro2 ca85 cc86 ((at_ p0.run_Reads (wi (((p0.run_Reads.length : Nat) : Int) - 1)).toNat) ++ [p3]) :: pts b84 (.cells #[vI p3] 2) :: rowH 31 1 own_sl31 (.slice ca9 p0.run_Reads.length cc10) p0.run_Reads (wi (((p0.run_Reads.length : Nat) : Int) - 1)).toNat [.slice ca80 (at_ p0.run_Reads (wi (((p0.run_Reads.length : Nat) : Int) - 1)).toNat).length cc81] :: ob133 B0 p0 (pA B0_arena 0) (.slice va0_rounds p0_rounds.length vc0_rounds) ca5 cc6 ca7 cc8 ca9 cc10 ca11 cc12 ca13 cc14 :: rowH 135 1 own_ptr135 (.slice ca5 p0.live.length cc6) p0.live ix0_live cs0_live :: ro3 ca7 cc8 p0.run_Holders :: ro2 ca11 cc12 p0.run_Marks :: ro96 ca13 cc14 p0.run_Log :: ob103 B0_arena p0_arena ca1 cc2 ca3 cc4 :: ro2 ca1 cc2 p0_arena.cell :: ro96 ca3 cc4 p0_arena.log :: ob137 B1 p1 :: L)) _ := h
        refine ⟨fun _ => ⟨⟨(h.pick 3).cell 11 rfl, trivial⟩, ⟨(h.pick 3).cell 11 rfl, trivial⟩, ⟨(h.pick 2).rowH_cell (by decide) (f := 0) rfl, trivial⟩, trivial⟩, ?_⟩
        refine ev 1 17 rfl (by kernel_rfl) (wn rfl) hr (pA (blk ca9) ((wi (((p0.run_Reads.length : Nat) : Int) - 1)).toNat * 1)) (fun w => ri_rowH (k := .i64) (E := 31) rfl (by kernel_rfl) (by kernel_rfl) (by kernel_rfl) (by kernel_rfl) (h.pick 2) c79) fun a hr => ?_
        refine e_one (fuel := 0) (i := 18) (by kernel_rfl) rfl ?_
        replace h : Fit z (sepL (rowH 31 1 own_sl31 (.slice ca9 p0.run_Reads.length cc10) p0.run_Reads (wi (((p0.run_Reads.length : Nat) : Int) - 1)).toNat [.slice ca80 (at_ p0.run_Reads (wi (((p0.run_Reads.length : Nat) : Int) - 1)).toNat).length cc81] :: ro2 ca85 cc86 ((at_ p0.run_Reads (wi (((p0.run_Reads.length : Nat) : Int) - 1)).toNat) ++ [p3]) :: pts b84 (.cells #[vI p3] 2) :: ob133 B0 p0 (pA B0_arena 0) (.slice va0_rounds p0_rounds.length vc0_rounds) ca5 cc6 ca7 cc8 ca9 cc10 ca11 cc12 ca13 cc14 :: rowH 135 1 own_ptr135 (.slice ca5 p0.live.length cc6) p0.live ix0_live cs0_live :: ro3 ca7 cc8 p0.run_Holders :: ro2 ca11 cc12 p0.run_Marks :: ro96 ca13 cc14 p0.run_Log :: ob103 B0_arena p0_arena ca1 cc2 ca3 cc4 :: ro2 ca1 cc2 p0_arena.cell :: ro96 ca3 cc4 p0_arena.log :: ob137 B1 p1 :: L)) _ := h.sel 12 [2, 0, 1, 3, 4, 5, 6, 7, 8, 9, 10, 11] (by kernel_rfl) (by kernel_rfl)
        refine op_store_rowH (wn rfl) rfl hr rfl (by kernel_rfl) (by kernel_rfl) (v := .slice ca85 ((at_ p0.run_Reads (wi (((p0.run_Reads.length : Nat) : Int) - 1)).toNat) ++ [p3]).length cc86) rfl rfl (by kernel_rfl) (by kernel_rfl) h (i := (wi (((p0.run_Reads.length : Nat) : Int) - 1)).toNat) (f := 0) (by decide) fun w h => ?_
        refine wpList_nil ?_; refine then_normal ?_
        replace h : Fit z (sepL (rowH 31 1 own_sl31 (.slice ca9 p0.run_Reads.length cc10) p0.run_Reads (wi (((p0.run_Reads.length : Nat) : Int) - 1)).toNat [.slice ca85 ((at_ p0.run_Reads (wi (((p0.run_Reads.length : Nat) : Int) - 1)).toNat) ++ [p3]).length cc86] :: ro2 ca85 cc86 ((at_ p0.run_Reads (wi (((p0.run_Reads.length : Nat) : Int) - 1)).toNat) ++ [p3]) :: pts b84 (.cells #[vI p3] 2) :: ob133 B0 p0 (pA B0_arena 0) (.slice va0_rounds p0_rounds.length vc0_rounds) ca5 cc6 ca7 cc8 ca9 cc10 ca11 cc12 ca13 cc14 :: rowH 135 1 own_ptr135 (.slice ca5 p0.live.length cc6) p0.live ix0_live cs0_live :: ro3 ca7 cc8 p0.run_Holders :: ro2 ca11 cc12 p0.run_Marks :: ro96 ca13 cc14 p0.run_Log :: ob103 B0_arena p0_arena ca1 cc2 ca3 cc4 :: ro2 ca1 cc2 p0_arena.cell :: ro96 ca3 cc4 p0_arena.log :: ob137 B1 p1 :: L)) _ := h
        refine ⟨fun hE => absurd hE (by decide), ?_⟩
        refine e_end (by kernel_rfl) ?_
        refine then_normal ?_
        refine sr ?_
        refine oo [115, 116, 117] [pA B1 0, pA B1 0, pA B1 15] hr fun a hr => ?_
        refine ld (wn rfl) hr (vI p1.at_) ((h.pick 11).cell 15 rfl) fun a hr => ?_
        refine oo [119, 120, 121] [vI (wi (p1.at_ + 1)), pA B1 0, pA B1 15] hr fun a hr => ?_
        replace h : Fit z (sepL (ob137 B1 p1 :: rowH 31 1 own_sl31 (.slice ca9 p0.run_Reads.length cc10) p0.run_Reads (wi (((p0.run_Reads.length : Nat) : Int) - 1)).toNat [.slice ca85 ((at_ p0.run_Reads (wi (((p0.run_Reads.length : Nat) : Int) - 1)).toNat) ++ [p3]).length cc86] :: ro2 ca85 cc86 ((at_ p0.run_Reads (wi (((p0.run_Reads.length : Nat) : Int) - 1)).toNat) ++ [p3]) :: pts b84 (.cells #[vI p3] 2) :: ob133 B0 p0 (pA B0_arena 0) (.slice va0_rounds p0_rounds.length vc0_rounds) ca5 cc6 ca7 cc8 ca9 cc10 ca11 cc12 ca13 cc14 :: rowH 135 1 own_ptr135 (.slice ca5 p0.live.length cc6) p0.live ix0_live cs0_live :: ro3 ca7 cc8 p0.run_Holders :: ro2 ca11 cc12 p0.run_Marks :: ro96 ca13 cc14 p0.run_Log :: ob103 B0_arena p0_arena ca1 cc2 ca3 cc4 :: ro2 ca1 cc2 p0_arena.cell :: ro96 ca3 cc4 p0_arena.log :: L)) _ := h.sel 12 [11, 0, 1, 2, 3, 4, 5, 6, 7, 8, 9, 10] (by kernel_rfl) (by kernel_rfl)
        refine sto (wn rfl) hr h 15 (vI (wi (p1.at_ + 1))) fun w h => ?_
        refine wpList_nil ?_
        replace h : Fit z (sepL (pts B1 (.cells #[vI p1.number, vI p1.about, vI p1.op_head_t_Base, vI p1.op_head_t_Frames, vI p1.op_head_frame, vI p1.op_head_stands, vI p1.op_head_code, vI p1.op_head_v, vI p1.op_kind, vI p1.op_slot, vI p1.op_give, vB p1.inOp, vI p1.frame, vI p1.slot, vI p1.value, vI (wi (p1.at_ + 1)), vB p1.child] 137) :: rowH 31 1 own_sl31 (.slice ca9 p0.run_Reads.length cc10) p0.run_Reads (wi (((p0.run_Reads.length : Nat) : Int) - 1)).toNat [.slice ca85 ((at_ p0.run_Reads (wi (((p0.run_Reads.length : Nat) : Int) - 1)).toNat) ++ [p3]).length cc86] :: ro2 ca85 cc86 ((at_ p0.run_Reads (wi (((p0.run_Reads.length : Nat) : Int) - 1)).toNat) ++ [p3]) :: pts b84 (.cells #[vI p3] 2) :: ob133 B0 p0 (pA B0_arena 0) (.slice va0_rounds p0_rounds.length vc0_rounds) ca5 cc6 ca7 cc8 ca9 cc10 ca11 cc12 ca13 cc14 :: rowH 135 1 own_ptr135 (.slice ca5 p0.live.length cc6) p0.live ix0_live cs0_live :: ro3 ca7 cc8 p0.run_Holders :: ro2 ca11 cc12 p0.run_Marks :: ro96 ca13 cc14 p0.run_Log :: ob103 B0_arena p0_arena ca1 cc2 ca3 cc4 :: ro2 ca1 cc2 p0_arena.cell :: ro96 ca3 cc4 p0_arena.log :: L)) _ := h
        refine then_normal ?_
        refine wp_region_lit ?_
        refine oo [122, 123] [pA B0 0, pA B1 0] hr fun a hr => ?_
        replace h : Fit z (sepL (ro2 ca85 cc86 ((at_ p0.run_Reads (wi (((p0.run_Reads.length : Nat) : Int) - 1)).toNat) ++ [p3]) :: rowH 31 1 own_sl31 (.slice ca9 p0.run_Reads.length cc10) p0.run_Reads (wi (((p0.run_Reads.length : Nat) : Int) - 1)).toNat [.slice ca85 ((at_ p0.run_Reads (wi (((p0.run_Reads.length : Nat) : Int) - 1)).toNat) ++ [p3]).length cc86] :: pts B1 (.cells #[vI p1.number, vI p1.about, vI p1.op_head_t_Base, vI p1.op_head_t_Frames, vI p1.op_head_frame, vI p1.op_head_stands, vI p1.op_head_code, vI p1.op_head_v, vI p1.op_kind, vI p1.op_slot, vI p1.op_give, vB p1.inOp, vI p1.frame, vI p1.slot, vI p1.value, vI (wi (p1.at_ + 1)), vB p1.child] 137) :: pts b84 (.cells #[vI p3] 2) :: ob133 B0 p0 (pA B0_arena 0) (.slice va0_rounds p0_rounds.length vc0_rounds) ca5 cc6 ca7 cc8 ca9 cc10 ca11 cc12 ca13 cc14 :: rowH 135 1 own_ptr135 (.slice ca5 p0.live.length cc6) p0.live ix0_live cs0_live :: ro3 ca7 cc8 p0.run_Holders :: ro2 ca11 cc12 p0.run_Marks :: ro96 ca13 cc14 p0.run_Log :: ob103 B0_arena p0_arena ca1 cc2 ca3 cc4 :: ro2 ca1 cc2 p0_arena.cell :: ro96 ca3 cc4 p0_arena.log :: L)) _ := h.sel 12 [2, 1, 0, 3, 4, 5, 6, 7, 8, 9, 10, 11] (by kernel_rfl) (by kernel_rfl)
        replace h := own_sl31_sh (x := ((at_ p0.run_Reads (wi (((p0.run_Reads.length : Nat) : Int) - 1)).toNat) ++ [p3])) h
        replace h : Fit z (sepL (rowN 31 1 own_sl31 (.slice ca9 p0.run_Reads.length cc10) (p0.run_Reads.set (wi (((p0.run_Reads.length : Nat) : Int) - 1)).toNat ((at_ p0.run_Reads (wi (((p0.run_Reads.length : Nat) : Int) - 1)).toNat) ++ [p3])) :: pts B1 (.cells #[vI p1.number, vI p1.about, vI p1.op_head_t_Base, vI p1.op_head_t_Frames, vI p1.op_head_frame, vI p1.op_head_stands, vI p1.op_head_code, vI p1.op_head_v, vI p1.op_kind, vI p1.op_slot, vI p1.op_give, vB p1.inOp, vI p1.frame, vI p1.slot, vI p1.value, vI (wi (p1.at_ + 1)), vB p1.child] 137) :: pts b84 (.cells #[vI p3] 2) :: ob133 B0 p0 (pA B0_arena 0) (.slice va0_rounds p0_rounds.length vc0_rounds) ca5 cc6 ca7 cc8 ca9 cc10 ca11 cc12 ca13 cc14 :: rowH 135 1 own_ptr135 (.slice ca5 p0.live.length cc6) p0.live ix0_live cs0_live :: ro3 ca7 cc8 p0.run_Holders :: ro2 ca11 cc12 p0.run_Marks :: ro96 ca13 cc14 p0.run_Log :: ob103 B0_arena p0_arena ca1 cc2 ca3 cc4 :: ro2 ca1 cc2 p0_arena.cell :: ro96 ca3 cc4 p0_arena.log :: L)) _ := Fit.rowH_back (h.pick 1)
        have hn87 := h.rowN_n
        replace h : Fit z (sepL (rn31 ca9 cc10 (p0.run_Reads.set (wi (((p0.run_Reads.length : Nat) : Int) - 1)).toNat ((at_ p0.run_Reads (wi (((p0.run_Reads.length : Nat) : Int) - 1)).toNat) ++ [p3])) :: pts B1 (.cells #[vI p1.number, vI p1.about, vI p1.op_head_t_Base, vI p1.op_head_t_Frames, vI p1.op_head_frame, vI p1.op_head_stands, vI p1.op_head_code, vI p1.op_head_v, vI p1.op_kind, vI p1.op_slot, vI p1.op_give, vB p1.inOp, vI p1.frame, vI p1.slot, vI p1.value, vI (wi (p1.at_ + 1)), vB p1.child] 137) :: pts b84 (.cells #[vI p3] 2) :: pts B0 (.cells #[pA B0_arena 0, vI p0.table_Base, vI p0.table_Frames, .slice va0_rounds p0_rounds.length vc0_rounds, vI p0.round, .slice ca5 p0.live.length cc6, vI p0.made, vI p0.got, vB p0.run_Done, vI p0.run_Steps, .slice ca7 p0.run_Holders.length cc8, .slice ca9 (p0.run_Reads.set (wi (((p0.run_Reads.length : Nat) : Int) - 1)).toNat ((at_ p0.run_Reads (wi (((p0.run_Reads.length : Nat) : Int) - 1)).toNat) ++ [p3])).length cc10, .slice ca11 p0.run_Marks.length cc12, .slice ca13 p0.run_Log.length cc14] 133) :: rowH 135 1 own_ptr135 (.slice ca5 p0.live.length cc6) p0.live ix0_live cs0_live :: ro3 ca7 cc8 p0.run_Holders :: ro2 ca11 cc12 p0.run_Marks :: ro96 ca13 cc14 p0.run_Log :: ob103 B0_arena p0_arena ca1 cc2 ca3 cc4 :: ro2 ca1 cc2 p0_arena.cell :: ro96 ca3 cc4 p0_arena.log :: L)) w := (congrArg (fun q_ : Nat => Fit z (sepL (rowN 31 1 own_sl31 (.slice ca9 q_ cc10) (p0.run_Reads.set (wi (((p0.run_Reads.length : Nat) : Int) - 1)).toNat ((at_ p0.run_Reads (wi (((p0.run_Reads.length : Nat) : Int) - 1)).toNat) ++ [p3])) :: pts B1 (.cells #[vI p1.number, vI p1.about, vI p1.op_head_t_Base, vI p1.op_head_t_Frames, vI p1.op_head_frame, vI p1.op_head_stands, vI p1.op_head_code, vI p1.op_head_v, vI p1.op_kind, vI p1.op_slot, vI p1.op_give, vB p1.inOp, vI p1.frame, vI p1.slot, vI p1.value, vI (wi (p1.at_ + 1)), vB p1.child] 137) :: pts b84 (.cells #[vI p3] 2) :: pts B0 (.cells #[pA B0_arena 0, vI p0.table_Base, vI p0.table_Frames, .slice va0_rounds p0_rounds.length vc0_rounds, vI p0.round, .slice ca5 p0.live.length cc6, vI p0.made, vI p0.got, vB p0.run_Done, vI p0.run_Steps, .slice ca7 p0.run_Holders.length cc8, .slice ca9 q_ cc10, .slice ca11 p0.run_Marks.length cc12, .slice ca13 p0.run_Log.length cc14] 133) :: rowH 135 1 own_ptr135 (.slice ca5 p0.live.length cc6) p0.live ix0_live cs0_live :: ro3 ca7 cc8 p0.run_Holders :: ro2 ca11 cc12 p0.run_Marks :: ro96 ca13 cc14 p0.run_Log :: ob103 B0_arena p0_arena ca1 cc2 ca3 cc4 :: ro2 ca1 cc2 p0_arena.cell :: ro96 ca3 cc4 p0_arena.log :: L)) w) h.rowN_n).mp h
        obtain ⟨S89, S90, e91, H⟩ := bd2 H
        replace h : Fit z (sepL (pts B0 (.cells #[pA B0_arena 0, vI p0.table_Base, vI p0.table_Frames, .slice va0_rounds p0_rounds.length vc0_rounds, vI p0.round, .slice ca5 p0.live.length cc6, vI p0.made, vI p0.got, vB p0.run_Done, vI p0.run_Steps, .slice ca7 p0.run_Holders.length cc8, .slice ca9 (p0.run_Reads.set (wi (((p0.run_Reads.length : Nat) : Int) - 1)).toNat ((at_ p0.run_Reads (wi (((p0.run_Reads.length : Nat) : Int) - 1)).toNat) ++ [p3])).length cc10, .slice ca11 p0.run_Marks.length cc12, .slice ca13 p0.run_Log.length cc14] 133) :: rowH 135 1 own_ptr135 (.slice ca5 p0.live.length cc6) p0.live ix0_live cs0_live :: ro3 ca7 cc8 p0.run_Holders :: rn31 ca9 cc10 (p0.run_Reads.set (wi (((p0.run_Reads.length : Nat) : Int) - 1)).toNat ((at_ p0.run_Reads (wi (((p0.run_Reads.length : Nat) : Int) - 1)).toNat) ++ [p3])) :: ro2 ca11 cc12 p0.run_Marks :: ro96 ca13 cc14 p0.run_Log :: ob103 B0_arena p0_arena ca1 cc2 ca3 cc4 :: ro2 ca1 cc2 p0_arena.cell :: ro96 ca3 cc4 p0_arena.log :: pts B1 (.cells #[vI p1.number, vI p1.about, vI p1.op_head_t_Base, vI p1.op_head_t_Frames, vI p1.op_head_frame, vI p1.op_head_stands, vI p1.op_head_code, vI p1.op_head_v, vI p1.op_kind, vI p1.op_slot, vI p1.op_give, vB p1.inOp, vI p1.frame, vI p1.slot, vI p1.value, vI (wi (p1.at_ + 1)), vB p1.child] 137) :: pts b84 (.cells #[vI p3] 2) :: L)) _ := h.sel 11 [3, 4, 5, 0, 6, 7, 8, 9, 10, 1, 2] (by kernel_rfl) (by kernel_rfl)
        have hc := frames_join_read_ok (va0_rounds := va0_rounds) (vc0_rounds := vc0_rounds) (hv0_rounds := (RdRow.up 1 hv0_rounds)) (H := e91) (h := h)
        refine cl (wn rfl) hr hc ?_; clear hc h
        rintro _ w ⟨caq92, ccq93, caq94, ccq95, caq96, ccq97, caq98, ccq99, caq100, ccq101, rfl, h⟩; refine ⟨_, rfl, fun a hr => ?_⟩
        refine wpList_nil ?_
        refine blk_normal ?_
        refine then_normal ?_
        refine sr ?_
        refine o1 hr (vB true) fun a hr => ?_
        refine ln ?_
        refine wp_ret ?_
        refine end_ret1 (v := vB true) rfl hr (by kernel_rfl) ?_
        replace h : Fit z (sepL (ob133 B0 S89 (pA B0_arena 0) (.slice va0_rounds p0_rounds.length vc0_rounds) caq92 ccq93 caq94 ccq95 caq96 ccq97 caq98 ccq99 caq100 ccq101 :: rowH 135 1 own_ptr135 (.slice caq92 S89.live.length ccq93) S89.live ix0_live cs0_live :: ro3 caq94 ccq95 S89.run_Holders :: rn31 caq96 ccq97 S89.run_Reads :: ro2 caq98 ccq99 S89.run_Marks :: ro96 caq100 ccq101 S89.run_Log :: ob103 B0_arena p0_arena ca1 cc2 ca3 cc4 :: ro2 ca1 cc2 p0_arena.cell :: ro96 ca3 cc4 p0_arena.log :: ob137 B1 S90 :: L)) _ := h.sel 11 [0, 1, 2, 3, 4, 5, 6, 7, 8, 9] (by kernel_rfl) (by kernel_rfl)
        obtain ⟨rfl, rfl, rfl⟩ := ej3 H
        exact ⟨caq92, ccq93, caq94, ccq95, caq96, ccq97, caq98, ccq99, caq100, ccq101, rfl, h⟩
       ·
        replace H := ifF c78 H
        refine cond_ff hr (beq_eq_false_iff_ne.mpr c78) ?_
        refine wp_skip ?_
        refine blk_normal ?_
        refine then_normal ?_
        refine sr ?_
        refine o1 hr (vB true) fun a hr => ?_
        refine ln ?_
        refine wp_ret ?_
        refine end_ret1 (v := vB true) rfl hr (by kernel_rfl) ?_
        obtain ⟨rfl, rfl, rfl⟩ := ej3 H
        exact ⟨ca5, cc6, ca7, cc8, ca9, cc10, ca11, cc12, ca13, cc14, rfl, h⟩

/-- (*plunder/frames.join).step -/
def frames_join_step (p0 : T_frames_join) (p0_arena : T_cells_Arena) (p0_rounds : List Int) (p1 : Int) : Option (T_frames_join × T_cells_Arena) :=
  if inr_ p1 p0.live.length then ob1 ((if (at_ p0.live p1.toNat).inOp = true then some (at_ p0.live p1.toNat) else ob1 (frames_join_begin p0 p0_arena p0_rounds (at_ p0.live p1.toNat)) (fun r23 => some (⟨(at_ p0.live p1.toNat).number, (at_ p0.live p1.toNat).about, r23.head_t_Base, r23.head_t_Frames, r23.head_frame, r23.head_stands, r23.head_code, r23.head_v, r23.kind, r23.slot, r23.give, true, (at_ p0.live p1.toNat).frame, (at_ p0.live p1.toNat).slot, (at_ p0.live p1.toNat).value, (at_ p0.live p1.toNat).at_, (at_ p0.live p1.toNat).child⟩ : T_frames_actor)))) (fun S19 => ob1 (cells_Arena_Who p0_arena S19.number) (fun S25 => ob2 (frames_Step_iface S25 (⟨S19.op_head_t_Base, S19.op_head_t_Frames, S19.op_head_frame, S19.op_head_stands, S19.op_head_code, S19.op_head_v, S19.op_kind, S19.op_slot, S19.op_give⟩ : T_frames_Op)) (fun r31 S32 => ob2 (frames_Answer r31) (fun r38 r39 => (if r38 = 0 then some ({ p0 with live := p0.live.set p1.toNat (⟨S19.number, S19.about, r31.head_t_Base, r31.head_t_Frames, r31.head_frame, r31.head_stands, r31.head_code, r31.head_v, r31.kind, r31.slot, r31.give, S19.inOp, S19.frame, S19.slot, S19.value, S19.at_, S19.child⟩ : T_frames_actor) }, S32) else ob3 (frames_join_next p0 S32 p0_rounds (⟨S19.number, S19.about, r31.head_t_Base, r31.head_t_Frames, r31.head_frame, r31.head_stands, r31.head_code, r31.head_v, r31.kind, r31.slot, r31.give, false, S19.frame, S19.slot, S19.value, S19.at_, S19.child⟩ : T_frames_actor) r38 r39) (fun r43 S44 S45 => (if r43 = true then some ({ S44 with live := S44.live.set p1.toNat S45 }, S32) else if inr_ p1 S44.live.length then if 0 ≤ (wi (p1 + 1)) ∧ (wi (p1 + 1)) ≤ ((S44.live.length : Nat) : Int) then if (wi (p1 + 1)).toNat = p1.toNat + 1 then if S44.live.length * 8 ≤ 140737488355328 then some ({ S44 with live := S44.live.eraseIdx p1.toNat }, S32) else none else none else none else none))))))) else none


end Go.Proofs.Ytnghahgfcaolbaa.Mo
