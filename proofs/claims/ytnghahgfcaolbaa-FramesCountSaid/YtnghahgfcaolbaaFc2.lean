/- what the functions compute, as plain Lean functions, and that they do -/
import Derived.Test.YtnghahgfcaolbaaFc1
namespace Go.Proofs.Ytnghahgfcaolbaa.Mo
open Go Go.RowKit Go.Proofs.Ytnghahgfcaolbaa.SL Go.Proofs.Ytnghahgfcaolbaa.GX
set_option linter.unusedVariables false
set_option linter.unusedSimpArgs false

/-- (plunder/frames.Table).mark -/
def frames_Table__mark (p0 : T_frames_Table) (p1 : Int) : Option (Int) :=
  ob1 (frames_Table__join p0 p1) (fun r2 => some (wi (r2 + (1 : Int))))
set_option maxRecDepth 100000 in
set_option maxHeartbeats 4000000 in
theorem frames_Table__mark_ok {z w : World} {L : List HProp} {p0 : T_frames_Table} {p1 : Int} {r0 : Int} (H : frames_Table__mark p0 p1 = some r0) (h : Fit z (sepL (L)) w)  :
    Calls Try.prog 77 #[.agg #[.int .i64 p0.Base, .int .i64 p0.Frames], .int .i64 p1] w fun e w => e = .returned (.int .i64 r0) ∧ Fit z (sepL (L)) w := by
  unfold frames_Table__mark at H
  refine enter Try.func77 rfl 9 rfl rfl [(0, .agg #[.int .i64 p0.Base, .int .i64 p0.Frames]), (1, .int .i64 p1)] ⟨rfl, rfl, trivial⟩ ?_
  intro j a hr
  refine wp_seq ?_
  refine wp_region_lit ?_
  refine op_new (wn rfl) rfl rfl hr h (vf := fun b => .pointer (some ⟨b, 0, none⟩)) (cs := #[.int .i64 p0.Base, .int .i64 p0.Frames]) (T := 39) (by kernel_rfl) ?_; clear h hr a; intro b1 w a h hr
  refine ov hr (.int .i64 0) (by kernel_rfl) ?_; clear hr a; intro a hr
  refine wpList_nil ?_
  refine then_normal ?_
  refine wp_seq ?_
  refine wp_region_lit ?_
  refine op_val (wn rfl) rfl rfl hr (v := .agg #[.int .i64 p0.Base, .int .i64 p0.Frames]) (rlm (cs := [.int .i64 p0.Base, .int .i64 p0.Frames]) rfl (by kernel_rfl) (by kernel_rfl) (by kernel_rfl) ⟨h.cell 0 rfl, h.cell 1 rfl, trivial⟩) ?_; clear hr a; intro a hr
  replace H := bd1 H; obtain ⟨r2, e3, H⟩ := H
  refine ov hr (.int .i64 p1) (by kernel_rfl) ?_; clear hr a; intro a hr
  have hc := frames_Table__join_ok (H := e3) (h := h)
  refine op_call (wn rfl) rfl rfl hr (f := 54) (args := #[.agg #[.int .i64 p0.Base, .int .i64 p0.Frames], .int .i64 p1]) (by kernel_rfl) hc ?_; clear hc h
  rintro _ w ⟨rfl, h⟩; refine ⟨_, rfl, ?_⟩
  clear hr a; intro a hr
  refine ovs [8, 4] [.int .i64 (wi (r2 + (1 : Int))), .int .i64 (wi (r2 + (1 : Int)))] hr ⟨rfl, rfl⟩ (by kernel_rfl) ?_; clear hr a; intro a hr
  refine wpList_nil ?_
  refine then_normal ?_
  refine wp_ret ?_
  refine end_ret1 (v := .int .i64 (wi (r2 + (1 : Int)))) rfl hr (by kernel_rfl) ?_
  replace h : Fit z (sepL (L)) _ := h.sel 1 [] (by kernel_rfl) (by kernel_rfl)
  replace H := ej1 H; subst H
  exact ⟨rfl, h⟩

/-- (*plunder/frames.Op).start -/
def frames_Op_start_iface (p0 : T_frames_Op) (p1 : T_cells_Arena) : Option (Int × T_frames_Op × T_cells_Arena) :=
  ob1 (frames_Table__mark (⟨p0.head_t_Base, p0.head_t_Frames⟩ : T_frames_Table) p0.head_frame) (fun r5 => ob3 (cells_Arena_Add p1 r5 1) (fun r7 r8 S9 => (if r8 = (0 : Int) then ob1 (frames_head_end p0 14 r7) (fun S16 => some (r8, S16, S9)) else some (r8, p0, S9))))
set_option maxRecDepth 100000 in
set_option maxHeartbeats 4000000 in
theorem frames_Op_start_iface_ok {z w : World} {L : List HProp} {p0 : T_frames_Op} {p1 : T_cells_Arena} {B0 : Nat} {B1 : Nat} {ca1 : Option Addr} {cc2 : Nat} {ca3 : Option Addr} {cc4 : Nat} {r0 : Int} {q0 : T_frames_Op} {q1 : T_cells_Arena} (H : frames_Op_start_iface p0 p1 = some (r0, q0, q1)) (h : Fit z (sepL (ob50 B0 p0 :: ob103 B1 p1 ca1 cc2 ca3 cc4 :: ro2 ca1 cc2 p1.cell :: ro96 ca3 cc4 p1.log :: L)) w)  :
    Calls Try.prog 85 #[.pointer (some ⟨B0, 0, none⟩), .iface 26 (.pointer (some ⟨B1, 0, none⟩))] w fun e w => ∃ caq1_1 : Option Addr, ∃ ccq1_2 : Nat, ∃ caq1_3 : Option Addr, ∃ ccq1_4 : Nat, e = .returned (.int .i64 r0) ∧ Fit z (sepL (ob50 B0 q0 :: ob103 B1 q1 caq1_1 ccq1_2 caq1_3 ccq1_4 :: ro2 caq1_1 ccq1_2 q1.cell :: ro96 caq1_3 ccq1_4 q1.log :: L)) w := by
  unfold frames_Op_start_iface at H
  refine enter Try.func85 rfl 34 rfl rfl [(0, .pointer (some ⟨B0, 0, none⟩)), (1, .iface 26 (.pointer (some ⟨B1, 0, none⟩)))] ⟨rfl, rfl, trivial⟩ ?_
  intro j a hr
  refine wp_seq ?_
  refine wp_region_lit ?_
  refine ov hr (.int .i64 0) (by kernel_rfl) ?_; clear hr a; intro a hr
  refine wpList_nil ?_
  refine then_normal ?_
  refine wp_seq ?_
  replace H := bd1 H; obtain ⟨r5, e6, H⟩ := H
  replace H := bd3 H; obtain ⟨r7, r8, S9, e10, H⟩ := H
  refine reg_E (fun w => heldC w B0 0 [.int .i64 p0.head_t_Base, .int .i64 p0.head_t_Frames] ∧ heldC w B0 2 [.int .i64 p0.head_frame] ∧ True) [2, 3, 4, 7, 8, 9, 11, 12, 13] h (by kernel_rfl) ?_; intro w h
  change wpAnyE _ _ _ _ _ _ 21 (Array.replicate 21 false) a w
  have hgo : ∀ w w', CellsGo w w' → (heldC w B0 0 [.int .i64 p0.head_t_Base, .int .i64 p0.head_t_Frames] ∧ heldC w B0 2 [.int .i64 p0.head_frame] ∧ True) → heldC w' B0 0 [.int .i64 p0.head_t_Base, .int .i64 p0.head_t_Frames] ∧ heldC w' B0 2 [.int .i64 p0.head_frame] ∧ True := fun w w' g hD => ⟨heldC_go _ _ _ _ _ g hD.1, heldC_go _ _ _ _ _ g hD.2.1, trivial⟩
  refine ev 20 0 rfl (by kernel_rfl) (wn rfl) hr (.iface 26 (.pointer (some ⟨B1, 0, none⟩))) (fun w => by kernel_rfl) ?_; clear hr a; intro a hr
  refine ev 19 1 rfl (by kernel_rfl) (wn rfl) hr (.pointer (some ⟨B0, 0, none⟩)) (fun w => by kernel_rfl) ?_; clear hr a; intro a hr
  refine evD hgo ⟨⟨h.cell 0 rfl, h.cell 1 rfl, trivial⟩, ⟨h.cell 2 rfl, trivial⟩, trivial⟩ 18 2 rfl (by kernel_rfl) (wn rfl) hr (.pointer (some ⟨B0, 0, none⟩)) (fun w => by kernel_rfl) ?_; clear hr a; intro a hr
  refine evD hgo ⟨⟨h.cell 0 rfl, h.cell 1 rfl, trivial⟩, ⟨h.cell 2 rfl, trivial⟩, trivial⟩ 17 3 rfl (by kernel_rfl) (wn rfl) hr (.pointer (some ⟨B0, 0, none⟩)) (fun w => by kernel_rfl) ?_; clear hr a; intro a hr
  refine evD hgo ⟨⟨h.cell 0 rfl, h.cell 1 rfl, trivial⟩, ⟨h.cell 2 rfl, trivial⟩, trivial⟩ 16 4 rfl (by kernel_rfl) (wn rfl) hr (.pointer (some ⟨B0, 0, none⟩)) (fun w => by kernel_rfl) ?_; clear hr a; intro a hr
  refine ev 15 6 rfl (by kernel_rfl) (wn rfl) hr (.pointer (some ⟨B0, 0, none⟩)) (fun w => by kernel_rfl) ?_; clear hr a; intro a hr
  refine evD hgo ⟨⟨h.cell 0 rfl, h.cell 1 rfl, trivial⟩, ⟨h.cell 2 rfl, trivial⟩, trivial⟩ 14 7 rfl (by kernel_rfl) (wn rfl) hr (.pointer (some ⟨B0, 0, none⟩)) (fun w => by kernel_rfl) ?_; clear hr a; intro a hr
  refine evD hgo ⟨⟨h.cell 0 rfl, h.cell 1 rfl, trivial⟩, ⟨h.cell 2 rfl, trivial⟩, trivial⟩ 13 8 rfl (by kernel_rfl) (wn rfl) hr (.pointer (some ⟨B0, 0, none⟩)) (fun w => by kernel_rfl) ?_; clear hr a; intro a hr
  refine evD hgo ⟨⟨h.cell 0 rfl, h.cell 1 rfl, trivial⟩, ⟨h.cell 2 rfl, trivial⟩, trivial⟩ 12 9 rfl (by kernel_rfl) (wn rfl) hr (.pointer (some ⟨B0, 2, none⟩)) (fun w => by kernel_rfl) ?_; clear hr a; intro a hr
  refine evD hgo ⟨⟨h.cell 0 rfl, h.cell 1 rfl, trivial⟩, ⟨h.cell 2 rfl, trivial⟩, trivial⟩ 11 12 rfl (by kernel_rfl) (wn rfl) hr (.func (.method "Add") #[.iface 26 (.pointer (some ⟨B1, 0, none⟩))] #[]) (fun w => by kernel_rfl) ?_; clear hr a; intro a hr
  refine evD hgo ⟨⟨h.cell 0 rfl, h.cell 1 rfl, trivial⟩, ⟨h.cell 2 rfl, trivial⟩, trivial⟩ 10 13 rfl (by kernel_rfl) (wn rfl) hr (.func (.method "Add") #[.iface 26 (.pointer (some ⟨B1, 0, none⟩))] #[]) (fun w => by kernel_rfl) ?_; clear hr a; intro a hr
  refine ev 9 14 rfl (by kernel_rfl) (wn rfl) hr (.iface 26 (.pointer (some ⟨B1, 0, none⟩))) (fun w => by kernel_rfl) ?_; clear hr a; intro a hr
  refine el [2, 3, 4, 7, 8, 9, 11, 12, 13] (b := B0) (off := 0) (cs := [.int .i64 p0.head_t_Base, .int .i64 p0.head_t_Frames]) (fun _ hk => ⟨hk, fun w hD => hD.1⟩) 8 5 rfl (by kernel_rfl) (wn rfl) hr (.agg #[.int .i64 p0.head_t_Base, .int .i64 p0.head_t_Frames]) ⟨h.cell 0 rfl, h.cell 1 rfl, trivial⟩ (fun w hc => rlm (cs := [.int .i64 p0.head_t_Base, .int .i64 p0.head_t_Frames]) rfl (by kernel_rfl) (by kernel_rfl) (by kernel_rfl) hc) ?_; clear hr a; intro a hr
  refine el [2, 3, 4, 7, 8, 9, 11, 12, 13] (b := B0) (off := 2) (cs := [.int .i64 p0.head_frame]) (fun _ hk => ⟨hk, fun w hD => hD.2.1⟩) 7 10 rfl (by kernel_rfl) (wn rfl) hr (.int .i64 p0.head_frame) ⟨h.cell 2 rfl, trivial⟩ (fun w hc => rl rfl (by kernel_rfl) (by kernel_rfl) hc.1) ?_; clear hr a; intro a hr
  refine e_one (fuel := 6) (i := 11) (by kernel_rfl) rfl ?_
  have hc := frames_Table__mark_ok (H := e6) (h := h)
  refine op_call (wn rfl) rfl rfl hr (f := 77) (args := #[.agg #[.int .i64 p0.head_t_Base, .int .i64 p0.head_t_Frames], .int .i64 p0.head_frame]) (by kernel_rfl) hc ?_; clear hc h
  rintro _ w ⟨rfl, h⟩; refine ⟨_, rfl, ?_⟩
  clear hr a; intro a hr
  refine wpList_nil ?_; refine then_normal ?_
  refine ⟨fun _ => ⟨⟨h.cell 0 rfl, h.cell 1 rfl, trivial⟩, ⟨h.cell 2 rfl, trivial⟩, trivial⟩, ?_⟩
  refine e_one (fuel := 5) (i := 15) (by kernel_rfl) rfl ?_
  replace h : Fit z (sepL (ob103 B1 p1 ca1 cc2 ca3 cc4 :: ro2 ca1 cc2 p1.cell :: ro96 ca3 cc4 p1.log :: ob50 B0 p0 :: L)) _ := h.sel 4 [1, 2, 3, 0] (by kernel_rfl) (by kernel_rfl)
  have hc := cells_Arena_Add_ok (H := e10) (h := h)
  refine op_call (wn rfl) rfl rfl hr (f := 122) (args := #[.pointer (some ⟨B1, 0, none⟩), .int .i64 r5, .int .i64 1]) (by kernel_rfl) hc ?_; clear hc h
  rintro _ w ⟨caq11, ccq12, caq13, ccq14, rfl, h⟩; refine ⟨_, rfl, ?_⟩
  clear hr a; intro a hr
  refine wpList_nil ?_; refine then_normal ?_
  refine ⟨fun hE => absurd hE (by decide), ?_⟩
  refine ev 4 16 rfl (by kernel_rfl) (wn rfl) hr (.tuple #[.int .i64 r7, .int .i64 r8]) (fun w => by kernel_rfl) ?_; clear hr a; intro a hr
  refine ev 3 17 rfl (by kernel_rfl) (wn rfl) hr (.int .i64 r7) (fun w => by kernel_rfl) ?_; clear hr a; intro a hr
  refine ev 2 18 rfl (by kernel_rfl) (wn rfl) hr (.int .i64 r8) (fun w => by kernel_rfl) ?_; clear hr a; intro a hr
  refine ev 1 19 rfl (by kernel_rfl) (wn rfl) hr (.int .i64 r7) (fun w => by kernel_rfl) ?_; clear hr a; intro a hr
  refine ev 0 20 rfl (by kernel_rfl) (wn rfl) hr (.int .i64 r8) (fun w => by kernel_rfl) ?_; clear hr a; intro a hr
  refine e_end (by kernel_rfl) ?_
  refine then_normal ?_
  refine wp_seq ?_
  refine wp_seq ?_
  refine wp_region_lit ?_
  refine ovs [26, 27] [.int .i64 r8, .bool (r8 == (0 : Int))] hr ⟨rfl, rfl⟩ (by kernel_rfl) ?_; clear hr a; intro a hr
  refine wpList_nil ?_
  refine then_normal ?_
  by_cases c15 : r8 = (0 : Int)
  ·
    replace H := ifT c15 H
    refine cond_tt hr (b := (r8 == (0 : Int))) (beq_iff_eq.mpr c15) ?_
    refine wp_region_lit ?_
    replace H := bd1 H; obtain ⟨S16, e17, H⟩ := H
    refine ovs [28, 29, 30, 31] [.pointer (some ⟨B0, 0, none⟩), .pointer (some ⟨B0, 0, none⟩), .pointer (some ⟨B0, 0, none⟩), .int .i64 r7] hr ⟨rfl, rfl⟩ (by kernel_rfl) ?_; clear hr a; intro a hr
    replace h : Fit z (sepL (ob50 B0 p0 :: ob103 B1 S9 caq11 ccq12 caq13 ccq14 :: ro2 caq11 ccq12 S9.cell :: ro96 caq13 ccq14 S9.log :: L)) _ := h.sel 4 [3, 0, 1, 2] (by kernel_rfl) (by kernel_rfl)
    have hc := frames_head_end_ok (H := e17) (h := h)
    refine op_call (wn rfl) rfl rfl hr (f := 56) (args := #[.pointer (some ⟨B0, 0, none⟩), .int .i64 14, .int .i64 r7]) (by kernel_rfl) hc ?_; clear hc h
    rintro _ w ⟨rfl, h⟩; refine ⟨_, rfl, ?_⟩
    clear hr a; intro a hr
    refine wpList_nil ?_
    refine then_normal ?_
    refine wp_seq ?_
    refine wp_region_lit ?_
    refine ovs [33, 4] [.int .i64 r8, .int .i64 r8] hr ⟨rfl, rfl⟩ (by kernel_rfl) ?_; clear hr a; intro a hr
    refine wpList_nil ?_
    refine then_normal ?_
    refine wp_ret ?_
    refine end_ret1 (v := .int .i64 r8) rfl hr (by kernel_rfl) ?_
    replace H := ej3 H; obtain ⟨rfl, rfl, rfl⟩ := H
    exact ⟨caq11, ccq12, caq13, ccq14, rfl, h⟩
  ·
    replace H := ifF c15 H
    refine cond_ff hr (b := (r8 == (0 : Int))) (beq_eq_false_iff_ne.mpr c15) ?_
    refine wp_skip ?_
    refine then_normal ?_
    refine wp_seq ?_
    refine wp_region_lit ?_
    refine ovs [33, 4] [.int .i64 r8, .int .i64 r8] hr ⟨rfl, rfl⟩ (by kernel_rfl) ?_; clear hr a; intro a hr
    refine wpList_nil ?_
    refine then_normal ?_
    refine wp_ret ?_
    refine end_ret1 (v := .int .i64 r8) rfl hr (by kernel_rfl) ?_
    replace h : Fit z (sepL (ob50 B0 p0 :: ob103 B1 S9 caq11 ccq12 caq13 ccq14 :: ro2 caq11 ccq12 S9.cell :: ro96 caq13 ccq14 S9.log :: L)) _ := h.sel 4 [3, 0, 1, 2] (by kernel_rfl) (by kernel_rfl)
    replace H := ej3 H; obtain ⟨rfl, rfl, rfl⟩ := H
    exact ⟨caq11, ccq12, caq13, ccq14, rfl, h⟩

/-- (*plunder/cells.Arena).Load -/
def cells_Arena_Load (p0 : T_cells_Arena) (p1 : Int) : Option (Int × Int × T_cells_Arena) :=
  ob1 (cells_Arena_outside p0 p1) (fun r5 => (if r5 = true then some (0, 20, p0) else if inr_ p1 p0.cell.length then ob1 (cells_Arena_note p0 0 p1 (at_ p0.cell p1.toNat) 0 true) (fun S9 => some ((at_ p0.cell p1.toNat), 0, S9)) else none))
set_option maxRecDepth 100000 in
set_option maxHeartbeats 4000000 in
theorem cells_Arena_Load_ok {z w : World} {L : List HProp} {p0 : T_cells_Arena} {p1 : Int} {B0 : Nat} {ca1 : Option Addr} {cc2 : Nat} {ca3 : Option Addr} {cc4 : Nat} {r0 : Int} {r1 : Int} {q0 : T_cells_Arena} (H : cells_Arena_Load p0 p1 = some (r0, r1, q0)) (h : Fit z (sepL (ob103 B0 p0 ca1 cc2 ca3 cc4 :: ro2 ca1 cc2 p0.cell :: ro96 ca3 cc4 p0.log :: L)) w)  :
    Calls Try.prog 123 #[.pointer (some ⟨B0, 0, none⟩), .int .i64 p1] w fun e w => ∃ caq0_1 : Option Addr, ∃ ccq0_2 : Nat, ∃ caq0_3 : Option Addr, ∃ ccq0_4 : Nat, e = .returned (.tuple #[.int .i64 r0, .int .i64 r1]) ∧ Fit z (sepL (ob103 B0 q0 caq0_1 ccq0_2 caq0_3 ccq0_4 :: ro2 caq0_1 ccq0_2 q0.cell :: ro96 caq0_3 ccq0_4 q0.log :: L)) w := by
  unfold cells_Arena_Load at H
  refine enter Try.func123 rfl 22 rfl rfl [(0, .pointer (some ⟨B0, 0, none⟩)), (1, .int .i64 p1)] ⟨rfl, rfl, trivial⟩ ?_
  intro j a hr
  refine wp_seq ?_
  refine wp_region_lit ?_
  refine ovs [4, 5] [.int .i64 0, .int .i64 0] hr ⟨rfl, rfl⟩ (by kernel_rfl) ?_; clear hr a; intro a hr
  refine wpList_nil ?_
  refine then_normal ?_
  refine wp_seq ?_
  refine wp_seq ?_
  refine wp_region_lit ?_
  replace H := bd1 H; obtain ⟨r5, e6, H⟩ := H
  refine ovs [7, 8] [.pointer (some ⟨B0, 0, none⟩), .int .i64 p1] hr ⟨rfl, rfl⟩ (by kernel_rfl) ?_; clear hr a; intro a hr
  have hc := cells_Arena_outside_ok (H := e6) (h := h)
  refine op_call (wn rfl) rfl rfl hr (f := 126) (args := #[.pointer (some ⟨B0, 0, none⟩), .int .i64 p1]) (by kernel_rfl) hc ?_; clear hc h
  rintro _ w ⟨rfl, h⟩; refine ⟨_, rfl, ?_⟩
  clear hr a; intro a hr
  refine wpList_nil ?_
  refine then_normal ?_
  by_cases c7 : r5 = true
  ·
    replace H := ifT c7 H
    refine cond_tt hr (b := r5) (c7) ?_
    refine wp_seq ?_
    refine wp_region_lit ?_
    refine ovs [4, 5] [.int .i64 0, .int .i64 20] hr ⟨rfl, rfl⟩ (by kernel_rfl) ?_; clear hr a; intro a hr
    refine wpList_nil ?_
    refine then_normal ?_
    refine wp_ret ?_
    refine then_ret ?_
    refine end_ret2 (v := .int .i64 0) (v' := .int .i64 20) rfl hr (by kernel_rfl) (by kernel_rfl) ?_
    replace H := ej3 H; obtain ⟨rfl, rfl, rfl⟩ := H
    exact ⟨ca1, cc2, ca3, cc4, rfl, h⟩
  ·
    replace H := ifF c7 H
    refine cond_ff hr (b := r5) (bF c7) ?_
    refine wp_skip ?_
    refine then_normal ?_
    refine wp_seq ?_
    refine wp_region_lit ?_
    refine ovs [10, 11, 12] [.pointer (some ⟨B0, 0, none⟩), .pointer (some ⟨B0, 0, none⟩), .pointer (some ⟨B0, 2, none⟩)] hr ⟨rfl, rfl⟩ (by kernel_rfl) ?_; clear hr a; intro a hr
    refine op_val (wn rfl) rfl rfl hr (v := .slice ca1 p0.cell.length cc2) (rl rfl (by kernel_rfl) (by kernel_rfl) (h.cell 2 rfl)) ?_; clear hr a; intro a hr
    replace H := gd H; obtain ⟨c8, H⟩ := H
    refine ov hr (.int .i64 p1) (by kernel_rfl) ?_; clear hr a; intro a hr
    refine op_val (wn rfl) rfl rfl hr (v := .pointer (some ⟨blk ca1, p1.toNat * 1, none⟩)) (ri_row (k := .i64) (E := 2) rfl (by kernel_rfl) (by kernel_rfl) (by kernel_rfl) (by kernel_rfl) (h.pick 1) c8) ?_; clear hr a; intro a hr
    refine op_val (wn rfl) rfl rfl hr (v := .int .i64 (at_ p0.cell p1.toNat)) (rl rfl (by kernel_rfl) (by kernel_rfl) ((h.pick 1).row_cell encZ_i64_ok (f := 0) (at_ok c8) rfl)) ?_; clear hr a; intro a hr
    refine ov hr (.int .i64 (at_ p0.cell p1.toNat)) (by kernel_rfl) ?_; clear hr a; intro a hr
    refine wpList_nil ?_
    refine then_normal ?_
    refine wp_seq ?_
    refine wp_region_lit ?_
    replace H := bd1 H; obtain ⟨S9, e10, H⟩ := H
    refine ovs [17, 18, 19] [.pointer (some ⟨B0, 0, none⟩), .int .i64 p1, .int .i64 (at_ p0.cell p1.toNat)] hr ⟨rfl, rfl⟩ (by kernel_rfl) ?_; clear hr a; intro a hr
    have hc := cells_Arena_note_ok (H := e10) (h := h)
    refine op_call (wn rfl) rfl rfl hr (f := 63) (args := #[.pointer (some ⟨B0, 0, none⟩), .int .i64 0, .int .i64 p1, .int .i64 (at_ p0.cell p1.toNat), .int .i64 0, .bool true]) (by kernel_rfl) hc ?_; clear hc h
    rintro _ w ⟨caq11, ccq12, caq13, ccq14, rfl, h⟩; refine ⟨_, rfl, ?_⟩
    clear hr a; intro a hr
    refine wpList_nil ?_
    refine then_normal ?_
    refine wp_seq ?_
    refine wp_region_lit ?_
    refine ovs [21, 4, 5] [.int .i64 (at_ p0.cell p1.toNat), .int .i64 (at_ p0.cell p1.toNat), .int .i64 0] hr ⟨rfl, rfl⟩ (by kernel_rfl) ?_; clear hr a; intro a hr
    refine wpList_nil ?_
    refine then_normal ?_
    refine wp_ret ?_
    refine end_ret2 (v := .int .i64 (at_ p0.cell p1.toNat)) (v' := .int .i64 0) rfl hr (by kernel_rfl) (by kernel_rfl) ?_
    replace H := ej3 H; obtain ⟨rfl, rfl, rfl⟩ := H
    exact ⟨caq11, ccq12, caq13, ccq14, rfl, h⟩

/-- (*plunder/frames.Op).fetch -/
def frames_Op_fetch_iface (p0 : T_frames_Op) (p1 : T_cells_Arena) : Option (Int × T_frames_Op × T_cells_Arena) :=
  ob1 (frames_Table__slot (⟨p0.head_t_Base, p0.head_t_Frames⟩ : T_frames_Table) p0.head_frame p0.slot) (fun r5 => ob3 (cells_Arena_Load p1 r5) (fun r7 r8 S9 => (if r8 = (0 : Int) then ob1 (frames_head_end p0 15 r7) (fun S16 => some (r8, S16, S9)) else some (r8, p0, S9))))
set_option maxRecDepth 100000 in
set_option maxHeartbeats 4000000 in
theorem frames_Op_fetch_iface_ok {z w : World} {L : List HProp} {p0 : T_frames_Op} {p1 : T_cells_Arena} {B0 : Nat} {B1 : Nat} {ca1 : Option Addr} {cc2 : Nat} {ca3 : Option Addr} {cc4 : Nat} {r0 : Int} {q0 : T_frames_Op} {q1 : T_cells_Arena} (H : frames_Op_fetch_iface p0 p1 = some (r0, q0, q1)) (h : Fit z (sepL (ob50 B0 p0 :: ob103 B1 p1 ca1 cc2 ca3 cc4 :: ro2 ca1 cc2 p1.cell :: ro96 ca3 cc4 p1.log :: L)) w)  :
    Calls Try.prog 86 #[.pointer (some ⟨B0, 0, none⟩), .iface 26 (.pointer (some ⟨B1, 0, none⟩))] w fun e w => ∃ caq1_1 : Option Addr, ∃ ccq1_2 : Nat, ∃ caq1_3 : Option Addr, ∃ ccq1_4 : Nat, e = .returned (.int .i64 r0) ∧ Fit z (sepL (ob50 B0 q0 :: ob103 B1 q1 caq1_1 ccq1_2 caq1_3 ccq1_4 :: ro2 caq1_1 ccq1_2 q1.cell :: ro96 caq1_3 ccq1_4 q1.log :: L)) w := by
  unfold frames_Op_fetch_iface at H
  refine enter Try.func86 rfl 38 rfl rfl [(0, .pointer (some ⟨B0, 0, none⟩)), (1, .iface 26 (.pointer (some ⟨B1, 0, none⟩)))] ⟨rfl, rfl, trivial⟩ ?_
  intro j a hr
  refine wp_seq ?_
  refine wp_region_lit ?_
  refine ov hr (.int .i64 0) (by kernel_rfl) ?_; clear hr a; intro a hr
  refine wpList_nil ?_
  refine then_normal ?_
  refine wp_seq ?_
  replace H := bd1 H; obtain ⟨r5, e6, H⟩ := H
  replace H := bd3 H; obtain ⟨r7, r8, S9, e10, H⟩ := H
  refine reg_E (fun w => heldC w B0 0 [.int .i64 p0.head_t_Base, .int .i64 p0.head_t_Frames] ∧ heldC w B0 2 [.int .i64 p0.head_frame] ∧ heldC w B0 7 [.int .i64 p0.slot] ∧ True) [2, 3, 4, 7, 8, 9, 12, 13, 15, 16, 17] h (by kernel_rfl) ?_; intro w h
  change wpAnyE _ _ _ _ _ _ 25 (Array.replicate 25 false) a w
  have hgo : ∀ w w', CellsGo w w' → (heldC w B0 0 [.int .i64 p0.head_t_Base, .int .i64 p0.head_t_Frames] ∧ heldC w B0 2 [.int .i64 p0.head_frame] ∧ heldC w B0 7 [.int .i64 p0.slot] ∧ True) → heldC w' B0 0 [.int .i64 p0.head_t_Base, .int .i64 p0.head_t_Frames] ∧ heldC w' B0 2 [.int .i64 p0.head_frame] ∧ heldC w' B0 7 [.int .i64 p0.slot] ∧ True := fun w w' g hD => ⟨heldC_go _ _ _ _ _ g hD.1, heldC_go _ _ _ _ _ g hD.2.1, heldC_go _ _ _ _ _ g hD.2.2.1, trivial⟩
  refine ev 24 0 rfl (by kernel_rfl) (wn rfl) hr (.iface 26 (.pointer (some ⟨B1, 0, none⟩))) (fun w => by kernel_rfl) ?_; clear hr a; intro a hr
  refine ev 23 1 rfl (by kernel_rfl) (wn rfl) hr (.pointer (some ⟨B0, 0, none⟩)) (fun w => by kernel_rfl) ?_; clear hr a; intro a hr
  refine evD hgo ⟨⟨h.cell 0 rfl, h.cell 1 rfl, trivial⟩, ⟨h.cell 2 rfl, trivial⟩, ⟨h.cell 7 rfl, trivial⟩, trivial⟩ 22 2 rfl (by kernel_rfl) (wn rfl) hr (.pointer (some ⟨B0, 0, none⟩)) (fun w => by kernel_rfl) ?_; clear hr a; intro a hr
  refine evD hgo ⟨⟨h.cell 0 rfl, h.cell 1 rfl, trivial⟩, ⟨h.cell 2 rfl, trivial⟩, ⟨h.cell 7 rfl, trivial⟩, trivial⟩ 21 3 rfl (by kernel_rfl) (wn rfl) hr (.pointer (some ⟨B0, 0, none⟩)) (fun w => by kernel_rfl) ?_; clear hr a; intro a hr
  refine evD hgo ⟨⟨h.cell 0 rfl, h.cell 1 rfl, trivial⟩, ⟨h.cell 2 rfl, trivial⟩, ⟨h.cell 7 rfl, trivial⟩, trivial⟩ 20 4 rfl (by kernel_rfl) (wn rfl) hr (.pointer (some ⟨B0, 0, none⟩)) (fun w => by kernel_rfl) ?_; clear hr a; intro a hr
  refine ev 19 6 rfl (by kernel_rfl) (wn rfl) hr (.pointer (some ⟨B0, 0, none⟩)) (fun w => by kernel_rfl) ?_; clear hr a; intro a hr
  refine evD hgo ⟨⟨h.cell 0 rfl, h.cell 1 rfl, trivial⟩, ⟨h.cell 2 rfl, trivial⟩, ⟨h.cell 7 rfl, trivial⟩, trivial⟩ 18 7 rfl (by kernel_rfl) (wn rfl) hr (.pointer (some ⟨B0, 0, none⟩)) (fun w => by kernel_rfl) ?_; clear hr a; intro a hr
  refine evD hgo ⟨⟨h.cell 0 rfl, h.cell 1 rfl, trivial⟩, ⟨h.cell 2 rfl, trivial⟩, ⟨h.cell 7 rfl, trivial⟩, trivial⟩ 17 8 rfl (by kernel_rfl) (wn rfl) hr (.pointer (some ⟨B0, 0, none⟩)) (fun w => by kernel_rfl) ?_; clear hr a; intro a hr
  refine evD hgo ⟨⟨h.cell 0 rfl, h.cell 1 rfl, trivial⟩, ⟨h.cell 2 rfl, trivial⟩, ⟨h.cell 7 rfl, trivial⟩, trivial⟩ 16 9 rfl (by kernel_rfl) (wn rfl) hr (.pointer (some ⟨B0, 2, none⟩)) (fun w => by kernel_rfl) ?_; clear hr a; intro a hr
  refine ev 15 11 rfl (by kernel_rfl) (wn rfl) hr (.pointer (some ⟨B0, 0, none⟩)) (fun w => by kernel_rfl) ?_; clear hr a; intro a hr
  refine evD hgo ⟨⟨h.cell 0 rfl, h.cell 1 rfl, trivial⟩, ⟨h.cell 2 rfl, trivial⟩, ⟨h.cell 7 rfl, trivial⟩, trivial⟩ 14 12 rfl (by kernel_rfl) (wn rfl) hr (.pointer (some ⟨B0, 0, none⟩)) (fun w => by kernel_rfl) ?_; clear hr a; intro a hr
  refine evD hgo ⟨⟨h.cell 0 rfl, h.cell 1 rfl, trivial⟩, ⟨h.cell 2 rfl, trivial⟩, ⟨h.cell 7 rfl, trivial⟩, trivial⟩ 13 13 rfl (by kernel_rfl) (wn rfl) hr (.pointer (some ⟨B0, 7, none⟩)) (fun w => by kernel_rfl) ?_; clear hr a; intro a hr
  refine evD hgo ⟨⟨h.cell 0 rfl, h.cell 1 rfl, trivial⟩, ⟨h.cell 2 rfl, trivial⟩, ⟨h.cell 7 rfl, trivial⟩, trivial⟩ 12 16 rfl (by kernel_rfl) (wn rfl) hr (.func (.method "Load") #[.iface 26 (.pointer (some ⟨B1, 0, none⟩))] #[]) (fun w => by kernel_rfl) ?_; clear hr a; intro a hr
  refine evD hgo ⟨⟨h.cell 0 rfl, h.cell 1 rfl, trivial⟩, ⟨h.cell 2 rfl, trivial⟩, ⟨h.cell 7 rfl, trivial⟩, trivial⟩ 11 17 rfl (by kernel_rfl) (wn rfl) hr (.func (.method "Load") #[.iface 26 (.pointer (some ⟨B1, 0, none⟩))] #[]) (fun w => by kernel_rfl) ?_; clear hr a; intro a hr
  refine ev 10 18 rfl (by kernel_rfl) (wn rfl) hr (.iface 26 (.pointer (some ⟨B1, 0, none⟩))) (fun w => by kernel_rfl) ?_; clear hr a; intro a hr
  refine el [2, 3, 4, 7, 8, 9, 12, 13, 15, 16, 17] (b := B0) (off := 0) (cs := [.int .i64 p0.head_t_Base, .int .i64 p0.head_t_Frames]) (fun _ hk => ⟨hk, fun w hD => hD.1⟩) 9 5 rfl (by kernel_rfl) (wn rfl) hr (.agg #[.int .i64 p0.head_t_Base, .int .i64 p0.head_t_Frames]) ⟨h.cell 0 rfl, h.cell 1 rfl, trivial⟩ (fun w hc => rlm (cs := [.int .i64 p0.head_t_Base, .int .i64 p0.head_t_Frames]) rfl (by kernel_rfl) (by kernel_rfl) (by kernel_rfl) hc) ?_; clear hr a; intro a hr
  refine el [2, 3, 4, 7, 8, 9, 12, 13, 15, 16, 17] (b := B0) (off := 2) (cs := [.int .i64 p0.head_frame]) (fun _ hk => ⟨hk, fun w hD => hD.2.1⟩) 8 10 rfl (by kernel_rfl) (wn rfl) hr (.int .i64 p0.head_frame) ⟨h.cell 2 rfl, trivial⟩ (fun w hc => rl rfl (by kernel_rfl) (by kernel_rfl) hc.1) ?_; clear hr a; intro a hr
  refine el [2, 3, 4, 7, 8, 9, 12, 13, 15, 16, 17] (b := B0) (off := 7) (cs := [.int .i64 p0.slot]) (fun _ hk => ⟨hk, fun w hD => hD.2.2.1⟩) 7 14 rfl (by kernel_rfl) (wn rfl) hr (.int .i64 p0.slot) ⟨h.cell 7 rfl, trivial⟩ (fun w hc => rl rfl (by kernel_rfl) (by kernel_rfl) hc.1) ?_; clear hr a; intro a hr
  refine e_one (fuel := 6) (i := 15) (by kernel_rfl) rfl ?_
  have hc := frames_Table__slot_ok (H := e6) (h := h)
  refine op_call (wn rfl) rfl rfl hr (f := 99) (args := #[.agg #[.int .i64 p0.head_t_Base, .int .i64 p0.head_t_Frames], .int .i64 p0.head_frame, .int .i64 p0.slot]) (by kernel_rfl) hc ?_; clear hc h
  rintro _ w ⟨rfl, h⟩; refine ⟨_, rfl, ?_⟩
  clear hr a; intro a hr
  refine wpList_nil ?_; refine then_normal ?_
  refine ⟨fun _ => ⟨⟨h.cell 0 rfl, h.cell 1 rfl, trivial⟩, ⟨h.cell 2 rfl, trivial⟩, ⟨h.cell 7 rfl, trivial⟩, trivial⟩, ?_⟩
  refine e_one (fuel := 5) (i := 19) (by kernel_rfl) rfl ?_
  replace h : Fit z (sepL (ob103 B1 p1 ca1 cc2 ca3 cc4 :: ro2 ca1 cc2 p1.cell :: ro96 ca3 cc4 p1.log :: ob50 B0 p0 :: L)) _ := h.sel 4 [1, 2, 3, 0] (by kernel_rfl) (by kernel_rfl)
  have hc := cells_Arena_Load_ok (H := e10) (h := h)
  refine op_call (wn rfl) rfl rfl hr (f := 123) (args := #[.pointer (some ⟨B1, 0, none⟩), .int .i64 r5]) (by kernel_rfl) hc ?_; clear hc h
  rintro _ w ⟨caq11, ccq12, caq13, ccq14, rfl, h⟩; refine ⟨_, rfl, ?_⟩
  clear hr a; intro a hr
  refine wpList_nil ?_; refine then_normal ?_
  refine ⟨fun hE => absurd hE (by decide), ?_⟩
  refine ev 4 20 rfl (by kernel_rfl) (wn rfl) hr (.tuple #[.int .i64 r7, .int .i64 r8]) (fun w => by kernel_rfl) ?_; clear hr a; intro a hr
  refine ev 3 21 rfl (by kernel_rfl) (wn rfl) hr (.int .i64 r7) (fun w => by kernel_rfl) ?_; clear hr a; intro a hr
  refine ev 2 22 rfl (by kernel_rfl) (wn rfl) hr (.int .i64 r8) (fun w => by kernel_rfl) ?_; clear hr a; intro a hr
  refine ev 1 23 rfl (by kernel_rfl) (wn rfl) hr (.int .i64 r7) (fun w => by kernel_rfl) ?_; clear hr a; intro a hr
  refine ev 0 24 rfl (by kernel_rfl) (wn rfl) hr (.int .i64 r8) (fun w => by kernel_rfl) ?_; clear hr a; intro a hr
  refine e_end (by kernel_rfl) ?_
  refine then_normal ?_
  refine wp_seq ?_
  refine wp_seq ?_
  refine wp_region_lit ?_
  refine ovs [30, 31] [.int .i64 r8, .bool (r8 == (0 : Int))] hr ⟨rfl, rfl⟩ (by kernel_rfl) ?_; clear hr a; intro a hr
  refine wpList_nil ?_
  refine then_normal ?_
  by_cases c15 : r8 = (0 : Int)
  ·
    replace H := ifT c15 H
    refine cond_tt hr (b := (r8 == (0 : Int))) (beq_iff_eq.mpr c15) ?_
    refine wp_region_lit ?_
    replace H := bd1 H; obtain ⟨S16, e17, H⟩ := H
    refine ovs [32, 33, 34, 35] [.pointer (some ⟨B0, 0, none⟩), .pointer (some ⟨B0, 0, none⟩), .pointer (some ⟨B0, 0, none⟩), .int .i64 r7] hr ⟨rfl, rfl⟩ (by kernel_rfl) ?_; clear hr a; intro a hr
    replace h : Fit z (sepL (ob50 B0 p0 :: ob103 B1 S9 caq11 ccq12 caq13 ccq14 :: ro2 caq11 ccq12 S9.cell :: ro96 caq13 ccq14 S9.log :: L)) _ := h.sel 4 [3, 0, 1, 2] (by kernel_rfl) (by kernel_rfl)
    have hc := frames_head_end_ok (H := e17) (h := h)
    refine op_call (wn rfl) rfl rfl hr (f := 56) (args := #[.pointer (some ⟨B0, 0, none⟩), .int .i64 15, .int .i64 r7]) (by kernel_rfl) hc ?_; clear hc h
    rintro _ w ⟨rfl, h⟩; refine ⟨_, rfl, ?_⟩
    clear hr a; intro a hr
    refine wpList_nil ?_
    refine then_normal ?_
    refine wp_seq ?_
    refine wp_region_lit ?_
    refine ovs [37, 4] [.int .i64 r8, .int .i64 r8] hr ⟨rfl, rfl⟩ (by kernel_rfl) ?_; clear hr a; intro a hr
    refine wpList_nil ?_
    refine then_normal ?_
    refine wp_ret ?_
    refine end_ret1 (v := .int .i64 r8) rfl hr (by kernel_rfl) ?_
    replace H := ej3 H; obtain ⟨rfl, rfl, rfl⟩ := H
    exact ⟨caq11, ccq12, caq13, ccq14, rfl, h⟩
  ·
    replace H := ifF c15 H
    refine cond_ff hr (b := (r8 == (0 : Int))) (beq_eq_false_iff_ne.mpr c15) ?_
    refine wp_skip ?_
    refine then_normal ?_
    refine wp_seq ?_
    refine wp_region_lit ?_
    refine ovs [37, 4] [.int .i64 r8, .int .i64 r8] hr ⟨rfl, rfl⟩ (by kernel_rfl) ?_; clear hr a; intro a hr
    refine wpList_nil ?_
    refine then_normal ?_
    refine wp_ret ?_
    refine end_ret1 (v := .int .i64 r8) rfl hr (by kernel_rfl) ?_
    replace h : Fit z (sepL (ob50 B0 p0 :: ob103 B1 S9 caq11 ccq12 caq13 ccq14 :: ro2 caq11 ccq12 S9.cell :: ro96 caq13 ccq14 S9.log :: L)) _ := h.sel 4 [3, 0, 1, 2] (by kernel_rfl) (by kernel_rfl)
    replace H := ej3 H; obtain ⟨rfl, rfl, rfl⟩ := H
    exact ⟨caq11, ccq12, caq13, ccq14, rfl, h⟩

/-- plunder/frames.Step -/
def frames_Step_iface (p0 : T_cells_Arena) (p1 : T_frames_Op) : Option (T_frames_Op × T_cells_Arena) :=
  (if p1.head_stands = (0 : Int) then some (p1, p0) else (if p1.kind = (0 : Int) then ob3 (frames_Op_alloc_iface p1 p0) (fun r9 S10 S11 => (if r9 = (0 : Int) then (if S10.head_stands > (0 : Int) then some ({ S10 with head_stands := wi (S10.head_stands + (1 : Int)) }, S11) else some (S10, S11)) else ob1 (frames_head_end S10 1 0) (fun S19 => some (S19, S11)))) else (if p1.kind = (1 : Int) then ob3 (frames_Op_fork_iface p1 p0) (fun r22 S23 S24 => (if r22 = (0 : Int) then (if S23.head_stands > (0 : Int) then some ({ S23 with head_stands := wi (S23.head_stands + (1 : Int)) }, S24) else some (S23, S24)) else ob1 (frames_head_end S23 1 0) (fun S32 => some (S32, S24)))) else (if p1.kind = (2 : Int) then ob3 (frames_Op_finish_iface p1 p0) (fun r35 S36 S37 => (if r35 = (0 : Int) then (if S36.head_stands > (0 : Int) then some ({ S36 with head_stands := wi (S36.head_stands + (1 : Int)) }, S37) else some (S36, S37)) else ob1 (frames_head_end S36 1 0) (fun S45 => some (S45, S37)))) else (if p1.kind = (3 : Int) then ob3 (frames_Op_sync_iface p1 p0) (fun r48 S49 S50 => (if r48 = (0 : Int) then (if S49.head_stands > (0 : Int) then some ({ S49 with head_stands := wi (S49.head_stands + (1 : Int)) }, S50) else some (S49, S50)) else ob1 (frames_head_end S49 1 0) (fun S58 => some (S58, S50)))) else (if p1.kind = (4 : Int) then ob3 (frames_Op_start_iface p1 p0) (fun r61 S62 S63 => (if r61 = (0 : Int) then (if S62.head_stands > (0 : Int) then some ({ S62 with head_stands := wi (S62.head_stands + (1 : Int)) }, S63) else some (S62, S63)) else ob1 (frames_head_end S62 1 0) (fun S71 => some (S71, S63)))) else ob3 (frames_Op_fetch_iface p1 p0) (fun r73 S74 S75 => (if r73 = (0 : Int) then (if S74.head_stands > (0 : Int) then some ({ S74 with head_stands := wi (S74.head_stands + (1 : Int)) }, S75) else some (S74, S75)) else ob1 (frames_head_end S74 1 0) (fun S83 => some (S83, S75))))))))))
set_option maxRecDepth 100000 in
set_option maxHeartbeats 4000000 in
theorem frames_Step_iface_ok {z w : World} {L : List HProp} {p0 : T_cells_Arena} {p1 : T_frames_Op} {B0 : Nat} {ca1 : Option Addr} {cc2 : Nat} {ca3 : Option Addr} {cc4 : Nat} {r0 : T_frames_Op} {q0 : T_cells_Arena} (H : frames_Step_iface p0 p1 = some (r0, q0)) (h : Fit z (sepL (ob103 B0 p0 ca1 cc2 ca3 cc4 :: ro2 ca1 cc2 p0.cell :: ro96 ca3 cc4 p0.log :: L)) w)  :
    Calls Try.prog 28 #[.iface 26 (.pointer (some ⟨B0, 0, none⟩)), .agg #[.int .i64 p1.head_t_Base, .int .i64 p1.head_t_Frames, .int .i64 p1.head_frame, .int .i64 p1.head_stands, .int .i64 p1.head_code, .int .i64 p1.head_v, .int .i64 p1.kind, .int .i64 p1.slot, .int .i64 p1.give]] w fun e w => ∃ caq0_1 : Option Addr, ∃ ccq0_2 : Nat, ∃ caq0_3 : Option Addr, ∃ ccq0_4 : Nat, e = .returned (.agg #[.int .i64 r0.head_t_Base, .int .i64 r0.head_t_Frames, .int .i64 r0.head_frame, .int .i64 r0.head_stands, .int .i64 r0.head_code, .int .i64 r0.head_v, .int .i64 r0.kind, .int .i64 r0.slot, .int .i64 r0.give]) ∧ Fit z (sepL (ob103 B0 q0 caq0_1 ccq0_2 caq0_3 ccq0_4 :: ro2 caq0_1 ccq0_2 q0.cell :: ro96 caq0_3 ccq0_4 q0.log :: L)) w := by
  unfold frames_Step_iface at H
  refine enter Try.func28 rfl 36 rfl rfl [(0, .iface 26 (.pointer (some ⟨B0, 0, none⟩))), (1, .agg #[.int .i64 p1.head_t_Base, .int .i64 p1.head_t_Frames, .int .i64 p1.head_frame, .int .i64 p1.head_stands, .int .i64 p1.head_code, .int .i64 p1.head_v, .int .i64 p1.kind, .int .i64 p1.slot, .int .i64 p1.give])] ⟨rfl, rfl, trivial⟩ ?_
  intro j a hr
  refine wp_seq ?_
  refine wp_region_lit ?_
  refine op_new (wn rfl) rfl rfl hr h (vf := fun b => .pointer (some ⟨b, 0, none⟩)) (cs := #[.int .i64 p1.head_t_Base, .int .i64 p1.head_t_Frames, .int .i64 p1.head_frame, .int .i64 p1.head_stands, .int .i64 p1.head_code, .int .i64 p1.head_v, .int .i64 p1.kind, .int .i64 p1.slot, .int .i64 p1.give]) (T := 50) (by kernel_rfl) ?_; clear h hr a; intro b5 w a h hr
  refine op_new (wn rfl) rfl rfl hr h (vf := fun b => .pointer (some ⟨b, 0, none⟩)) (cs := #[.int .i64 0, .int .i64 0, .int .i64 0, .int .i64 0, .int .i64 0, .int .i64 0, .int .i64 0, .int .i64 0, .int .i64 0]) (T := 50) (by kernel_rfl) ?_; clear h hr a; intro b6 w a h hr
  refine wpList_nil ?_
  refine then_normal ?_
  refine wp_seq ?_
  refine wp_seq ?_
  refine wp_region_lit ?_
  refine ovs [6, 7] [.pointer (some ⟨b5, 0, none⟩), .pointer (some ⟨b5, 3, none⟩)] hr ⟨rfl, rfl⟩ (by kernel_rfl) ?_; clear hr a; intro a hr
  refine op_val (wn rfl) rfl rfl hr (v := .int .i64 p1.head_stands) (rl rfl (by kernel_rfl) (by kernel_rfl) ((h.pick 1).cell 3 rfl)) ?_; clear hr a; intro a hr
  refine ov hr (.bool (p1.head_stands == (0 : Int))) (by kernel_rfl) ?_; clear hr a; intro a hr
  refine wpList_nil ?_
  refine then_normal ?_
  by_cases c7 : p1.head_stands = (0 : Int)
  ·
    replace H := ifT c7 H
    refine cond_tt hr (b := (p1.head_stands == (0 : Int))) (beq_iff_eq.mpr c7) ?_
    refine wp_seq ?_
    refine wp_region_lit ?_
    refine op_val (wn rfl) rfl rfl hr (v := .agg #[.int .i64 p1.head_t_Base, .int .i64 p1.head_t_Frames, .int .i64 p1.head_frame, .int .i64 p1.head_stands, .int .i64 p1.head_code, .int .i64 p1.head_v, .int .i64 p1.kind, .int .i64 p1.slot, .int .i64 p1.give]) (rlm (cs := [.int .i64 p1.head_t_Base, .int .i64 p1.head_t_Frames, .int .i64 p1.head_frame, .int .i64 p1.head_stands, .int .i64 p1.head_code, .int .i64 p1.head_v, .int .i64 p1.kind, .int .i64 p1.slot, .int .i64 p1.give]) rfl (by kernel_rfl) (by kernel_rfl) (by kernel_rfl) ⟨(h.pick 1).cell 0 rfl, (h.pick 1).cell 1 rfl, (h.pick 1).cell 2 rfl, (h.pick 1).cell 3 rfl, (h.pick 1).cell 4 rfl, (h.pick 1).cell 5 rfl, (h.pick 1).cell 6 rfl, (h.pick 1).cell 7 rfl, (h.pick 1).cell 8 rfl, trivial⟩) ?_; clear hr a; intro a hr
    refine op_stores (wn rfl) rfl hr rfl (by kernel_rfl) (by kernel_rfl) (vs := [.int .i64 p1.head_t_Base, .int .i64 p1.head_t_Frames, .int .i64 p1.head_frame, .int .i64 p1.head_stands, .int .i64 p1.head_code, .int .i64 p1.head_v, .int .i64 p1.kind, .int .i64 p1.slot, .int .i64 p1.give]) rfl rfl (by kernel_rfl) h (i := 0) (cs' := #[.int .i64 p1.head_t_Base, .int .i64 p1.head_t_Frames, .int .i64 p1.head_frame, .int .i64 p1.head_stands, .int .i64 p1.head_code, .int .i64 p1.head_v, .int .i64 p1.kind, .int .i64 p1.slot, .int .i64 p1.give]) rfl ?_; clear h; intro w h
    refine wpList_nil ?_
    replace h : Fit z (sepL (ob50 b6 p1 :: ob50 b5 p1 :: ob103 B0 p0 ca1 cc2 ca3 cc4 :: ro2 ca1 cc2 p0.cell :: ro96 ca3 cc4 p0.log :: L)) _ := h
    refine then_normal ?_
    refine wp_ret ?_
    refine then_ret ?_
    refine end_retC (cs := [.int .i64 p1.head_t_Base, .int .i64 p1.head_t_Frames, .int .i64 p1.head_frame, .int .i64 p1.head_stands, .int .i64 p1.head_code, .int .i64 p1.head_v, .int .i64 p1.kind, .int .i64 p1.slot, .int .i64 p1.give]) rfl hr (by kernel_rfl) (by kernel_rfl) (by kernel_rfl) ⟨h.cell 0 rfl, h.cell 1 rfl, h.cell 2 rfl, h.cell 3 rfl, h.cell 4 rfl, h.cell 5 rfl, h.cell 6 rfl, h.cell 7 rfl, h.cell 8 rfl, trivial⟩ ?_
    replace h : Fit z (sepL (ob103 B0 p0 ca1 cc2 ca3 cc4 :: ro2 ca1 cc2 p0.cell :: ro96 ca3 cc4 p0.log :: L)) _ := h.sel 5 [2, 3, 4] (by kernel_rfl) (by kernel_rfl)
    replace H := ej2 H; obtain ⟨rfl, rfl⟩ := H
    exact ⟨ca1, cc2, ca3, cc4, rfl, h⟩
  ·
    replace H := ifF c7 H
    refine cond_ff hr (b := (p1.head_stands == (0 : Int))) (beq_eq_false_iff_ne.mpr c7) ?_
    refine wp_skip ?_
    refine then_normal ?_
    refine wp_seq ?_
    refine wp_seq ?_
    refine wp_region_lit ?_
    refine ovs [11, 12] [.iface 26 (.pointer (some ⟨B0, 0, none⟩)), .bool false] hr ⟨rfl, rfl⟩ (by kernel_rfl) ?_; clear hr a; intro a hr
    refine wpList_nil ?_
    refine then_normal ?_
    refine cond_ff hr (b := false) rfl ?_
    refine wp_skip ?_
    refine then_normal ?_
    refine wp_seq ?_
    refine wp_seq ?_
    refine wp_region_lit ?_
    refine ov hr (.pointer (some ⟨b5, 6, none⟩)) (by kernel_rfl) ?_; clear hr a; intro a hr
    refine op_val (wn rfl) rfl rfl hr (v := .int .i64 p1.kind) (rl rfl (by kernel_rfl) (by kernel_rfl) ((h.pick 1).cell 6 rfl)) ?_; clear hr a; intro a hr
    refine op_inl (wn rfl) rfl rfl hr (f := 57) (args := #[.int .i64 p1.kind]) (by kernel_rfl) ?_; clear hr a
    refine enter Try.func57 rfl 14 rfl rfl [(0, .int .i64 p1.kind)] ⟨by kernel_rfl, trivial⟩ ?_; intro j a hr
    refine wp_seq ?_
    refine wp_region_lit ?_
    refine ov hr (.nilFunc) (by kernel_rfl) ?_; clear hr a; intro a hr
    refine wpList_nil ?_
    refine then_normal ?_
    refine wp_seq ?_
    refine wp_seq ?_
    refine wp_region_lit ?_
    refine ov hr (.int .i64 p1.kind) (by kernel_rfl) ?_; clear hr a; intro a hr
    refine wpList_nil ?_
    refine then_normal ?_
    refine wp_block ?_
    refine wp_seq ?_
    refine wp_region_lit ?_
    refine ovs [5, 4] [.bool (p1.kind == (0 : Int)), .bool (p1.kind == (0 : Int))] hr ⟨rfl, rfl⟩ (by kernel_rfl) ?_; clear hr a; intro a hr
    refine wpList_nil ?_
    refine then_normal ?_
    by_cases c8 : p1.kind = (0 : Int)
    ·
      replace H := ifT c8 H
      refine cond_tt hr (b := (p1.kind == (0 : Int))) (beq_iff_eq.mpr c8) ?_
      refine wp_seq ?_
      refine wp_region_lit ?_
      refine ov hr (.func (.func 81) #[] #[]) (by kernel_rfl) ?_; clear hr a; intro a hr
      refine wpList_nil ?_
      refine then_normal ?_
      refine wp_ret ?_
      refine blk_ret ?_
      refine then_ret ?_
      refine end_ret1 (v := .func (.func 81) #[] #[]) rfl hr (by kernel_rfl) ?_
      refine ⟨_, rfl, ?_⟩; clear hr a; intro a hr
      replace H := bd3 H; obtain ⟨r9, S10, S11, e12, H⟩ := H
      refine ov hr (.iface 26 (.pointer (some ⟨B0, 0, none⟩))) (by kernel_rfl) ?_; clear hr a; intro a hr
      replace h : Fit z (sepL (ob50 b5 p1 :: ob103 B0 p0 ca1 cc2 ca3 cc4 :: ro2 ca1 cc2 p0.cell :: ro96 ca3 cc4 p0.log :: pts b6 (.cells #[.int .i64 0, .int .i64 0, .int .i64 0, .int .i64 0, .int .i64 0, .int .i64 0, .int .i64 0, .int .i64 0, .int .i64 0] 50) :: L)) _ := h.sel 5 [1, 2, 3, 4, 0] (by kernel_rfl) (by kernel_rfl)
      have hc := frames_Op_alloc_iface_ok (H := e12) (h := h)
      refine op_call (wn rfl) rfl rfl hr (f := 81) (args := #[.pointer (some ⟨b5, 0, none⟩), .iface 26 (.pointer (some ⟨B0, 0, none⟩))]) (by kernel_rfl) hc ?_; clear hc h
      rintro _ w ⟨caq13, ccq14, caq15, ccq16, rfl, h⟩; refine ⟨_, rfl, ?_⟩
      clear hr a; intro a hr
      refine ov hr (.int .i64 r9) (by kernel_rfl) ?_; clear hr a; intro a hr
      refine wpList_nil ?_
      refine then_normal ?_
      refine wp_seq ?_
      refine wp_region_lit ?_
      refine ovs [21, 22] [.int .i64 r9, .bool (r9 != (0 : Int))] hr ⟨rfl, rfl⟩ (by kernel_rfl) ?_; clear hr a; intro a hr
      refine wpList_nil ?_
      refine then_normal ?_
      by_cases c17 : r9 = (0 : Int)
      ·
        replace H := ifT c17 H
        refine cond_ff hr (b := (r9 != (0 : Int))) (bne_eq_false_iff_eq.mpr c17) ?_
        refine wp_seq ?_
        refine wp_region_lit ?_
        refine ovs [25, 26] [.pointer (some ⟨b5, 0, none⟩), .pointer (some ⟨b5, 3, none⟩)] hr ⟨rfl, rfl⟩ (by kernel_rfl) ?_; clear hr a; intro a hr
        refine op_val (wn rfl) rfl rfl hr (v := .int .i64 S10.head_stands) (rl rfl (by kernel_rfl) (by kernel_rfl) (h.cell 3 rfl)) ?_; clear hr a; intro a hr
        refine ov hr (.bool (decide (S10.head_stands > (0 : Int)))) (by kernel_rfl) ?_; clear hr a; intro a hr
        refine wpList_nil ?_
        refine then_normal ?_
        by_cases c18 : S10.head_stands > (0 : Int)
        ·
          replace H := ifT c18 H
          refine cond_tt hr (b := (decide (S10.head_stands > (0 : Int)))) (decide_eq_true c18) ?_
          refine wp_region_lit ?_
          refine ovs [29, 30] [.pointer (some ⟨b5, 0, none⟩), .pointer (some ⟨b5, 3, none⟩)] hr ⟨rfl, rfl⟩ (by kernel_rfl) ?_; clear hr a; intro a hr
          refine op_val (wn rfl) rfl rfl hr (v := .int .i64 S10.head_stands) (rl rfl (by kernel_rfl) (by kernel_rfl) (h.cell 3 rfl)) ?_; clear hr a; intro a hr
          refine ovs [32, 33, 34] [.int .i64 (wi (S10.head_stands + (1 : Int))), .pointer (some ⟨b5, 0, none⟩), .pointer (some ⟨b5, 3, none⟩)] hr ⟨rfl, rfl⟩ (by kernel_rfl) ?_; clear hr a; intro a hr
          refine op_store (wn rfl) rfl hr rfl (by kernel_rfl) (by kernel_rfl) (v := .int .i64 (wi (S10.head_stands + (1 : Int)))) rfl rfl (by kernel_rfl) h (i := 3) rfl ?_; clear h; intro w h
          refine wpList_nil ?_
          replace h : Fit z (sepL (pts b5 (.cells #[.int .i64 S10.head_t_Base, .int .i64 S10.head_t_Frames, .int .i64 S10.head_frame, .int .i64 (wi (S10.head_stands + (1 : Int))), .int .i64 S10.head_code, .int .i64 S10.head_v, .int .i64 S10.kind, .int .i64 S10.slot, .int .i64 S10.give] 50) :: ob103 B0 S11 caq13 ccq14 caq15 ccq16 :: ro2 caq13 ccq14 S11.cell :: ro96 caq15 ccq16 S11.log :: pts b6 (.cells #[.int .i64 0, .int .i64 0, .int .i64 0, .int .i64 0, .int .i64 0, .int .i64 0, .int .i64 0, .int .i64 0, .int .i64 0] 50) :: L)) _ := h
          refine then_normal ?_
          refine wp_seq ?_
          refine wp_region_lit ?_
          refine op_val (wn rfl) rfl rfl hr (v := .agg #[.int .i64 S10.head_t_Base, .int .i64 S10.head_t_Frames, .int .i64 S10.head_frame, .int .i64 (wi (S10.head_stands + (1 : Int))), .int .i64 S10.head_code, .int .i64 S10.head_v, .int .i64 S10.kind, .int .i64 S10.slot, .int .i64 S10.give]) (rlm (cs := [.int .i64 S10.head_t_Base, .int .i64 S10.head_t_Frames, .int .i64 S10.head_frame, .int .i64 (wi (S10.head_stands + (1 : Int))), .int .i64 S10.head_code, .int .i64 S10.head_v, .int .i64 S10.kind, .int .i64 S10.slot, .int .i64 S10.give]) rfl (by kernel_rfl) (by kernel_rfl) (by kernel_rfl) ⟨h.cell 0 rfl, h.cell 1 rfl, h.cell 2 rfl, h.cell 3 rfl, h.cell 4 rfl, h.cell 5 rfl, h.cell 6 rfl, h.cell 7 rfl, h.cell 8 rfl, trivial⟩) ?_; clear hr a; intro a hr
          replace h : Fit z (sepL (pts b6 (.cells #[.int .i64 0, .int .i64 0, .int .i64 0, .int .i64 0, .int .i64 0, .int .i64 0, .int .i64 0, .int .i64 0, .int .i64 0] 50) :: pts b5 (.cells #[.int .i64 S10.head_t_Base, .int .i64 S10.head_t_Frames, .int .i64 S10.head_frame, .int .i64 (wi (S10.head_stands + (1 : Int))), .int .i64 S10.head_code, .int .i64 S10.head_v, .int .i64 S10.kind, .int .i64 S10.slot, .int .i64 S10.give] 50) :: ob103 B0 S11 caq13 ccq14 caq15 ccq16 :: ro2 caq13 ccq14 S11.cell :: ro96 caq15 ccq16 S11.log :: L)) _ := h.sel 5 [4, 0, 1, 2, 3] (by kernel_rfl) (by kernel_rfl)
          refine op_stores (wn rfl) rfl hr rfl (by kernel_rfl) (by kernel_rfl) (vs := [.int .i64 S10.head_t_Base, .int .i64 S10.head_t_Frames, .int .i64 S10.head_frame, .int .i64 (wi (S10.head_stands + (1 : Int))), .int .i64 S10.head_code, .int .i64 S10.head_v, .int .i64 S10.kind, .int .i64 S10.slot, .int .i64 S10.give]) rfl rfl (by kernel_rfl) h (i := 0) (cs' := #[.int .i64 S10.head_t_Base, .int .i64 S10.head_t_Frames, .int .i64 S10.head_frame, .int .i64 (wi (S10.head_stands + (1 : Int))), .int .i64 S10.head_code, .int .i64 S10.head_v, .int .i64 S10.kind, .int .i64 S10.slot, .int .i64 S10.give]) rfl ?_; clear h; intro w h
          refine wpList_nil ?_
          replace h : Fit z (sepL (pts b6 (.cells #[.int .i64 S10.head_t_Base, .int .i64 S10.head_t_Frames, .int .i64 S10.head_frame, .int .i64 (wi (S10.head_stands + (1 : Int))), .int .i64 S10.head_code, .int .i64 S10.head_v, .int .i64 S10.kind, .int .i64 S10.slot, .int .i64 S10.give] 50) :: pts b5 (.cells #[.int .i64 S10.head_t_Base, .int .i64 S10.head_t_Frames, .int .i64 S10.head_frame, .int .i64 (wi (S10.head_stands + (1 : Int))), .int .i64 S10.head_code, .int .i64 S10.head_v, .int .i64 S10.kind, .int .i64 S10.slot, .int .i64 S10.give] 50) :: ob103 B0 S11 caq13 ccq14 caq15 ccq16 :: ro2 caq13 ccq14 S11.cell :: ro96 caq15 ccq16 S11.log :: L)) _ := h
          refine then_normal ?_
          refine wp_ret ?_
          refine end_retC (cs := [.int .i64 S10.head_t_Base, .int .i64 S10.head_t_Frames, .int .i64 S10.head_frame, .int .i64 (wi (S10.head_stands + (1 : Int))), .int .i64 S10.head_code, .int .i64 S10.head_v, .int .i64 S10.kind, .int .i64 S10.slot, .int .i64 S10.give]) rfl hr (by kernel_rfl) (by kernel_rfl) (by kernel_rfl) ⟨h.cell 0 rfl, h.cell 1 rfl, h.cell 2 rfl, h.cell 3 rfl, h.cell 4 rfl, h.cell 5 rfl, h.cell 6 rfl, h.cell 7 rfl, h.cell 8 rfl, trivial⟩ ?_
          replace h : Fit z (sepL (ob103 B0 S11 caq13 ccq14 caq15 ccq16 :: ro2 caq13 ccq14 S11.cell :: ro96 caq15 ccq16 S11.log :: L)) _ := h.sel 5 [2, 3, 4] (by kernel_rfl) (by kernel_rfl)
          replace H := ej2 H; obtain ⟨rfl, rfl⟩ := H
          exact ⟨caq13, ccq14, caq15, ccq16, rfl, h⟩
        ·
          replace H := ifF c18 H
          refine cond_ff hr (b := (decide (S10.head_stands > (0 : Int)))) (decide_eq_false c18) ?_
          refine wp_skip ?_
          refine then_normal ?_
          refine wp_seq ?_
          refine wp_region_lit ?_
          refine op_val (wn rfl) rfl rfl hr (v := .agg #[.int .i64 S10.head_t_Base, .int .i64 S10.head_t_Frames, .int .i64 S10.head_frame, .int .i64 S10.head_stands, .int .i64 S10.head_code, .int .i64 S10.head_v, .int .i64 S10.kind, .int .i64 S10.slot, .int .i64 S10.give]) (rlm (cs := [.int .i64 S10.head_t_Base, .int .i64 S10.head_t_Frames, .int .i64 S10.head_frame, .int .i64 S10.head_stands, .int .i64 S10.head_code, .int .i64 S10.head_v, .int .i64 S10.kind, .int .i64 S10.slot, .int .i64 S10.give]) rfl (by kernel_rfl) (by kernel_rfl) (by kernel_rfl) ⟨h.cell 0 rfl, h.cell 1 rfl, h.cell 2 rfl, h.cell 3 rfl, h.cell 4 rfl, h.cell 5 rfl, h.cell 6 rfl, h.cell 7 rfl, h.cell 8 rfl, trivial⟩) ?_; clear hr a; intro a hr
          replace h : Fit z (sepL (pts b6 (.cells #[.int .i64 0, .int .i64 0, .int .i64 0, .int .i64 0, .int .i64 0, .int .i64 0, .int .i64 0, .int .i64 0, .int .i64 0] 50) :: ob50 b5 S10 :: ob103 B0 S11 caq13 ccq14 caq15 ccq16 :: ro2 caq13 ccq14 S11.cell :: ro96 caq15 ccq16 S11.log :: L)) _ := h.sel 5 [4, 0, 1, 2, 3] (by kernel_rfl) (by kernel_rfl)
          refine op_stores (wn rfl) rfl hr rfl (by kernel_rfl) (by kernel_rfl) (vs := [.int .i64 S10.head_t_Base, .int .i64 S10.head_t_Frames, .int .i64 S10.head_frame, .int .i64 S10.head_stands, .int .i64 S10.head_code, .int .i64 S10.head_v, .int .i64 S10.kind, .int .i64 S10.slot, .int .i64 S10.give]) rfl rfl (by kernel_rfl) h (i := 0) (cs' := #[.int .i64 S10.head_t_Base, .int .i64 S10.head_t_Frames, .int .i64 S10.head_frame, .int .i64 S10.head_stands, .int .i64 S10.head_code, .int .i64 S10.head_v, .int .i64 S10.kind, .int .i64 S10.slot, .int .i64 S10.give]) rfl ?_; clear h; intro w h
          refine wpList_nil ?_
          replace h : Fit z (sepL (ob50 b6 S10 :: ob50 b5 S10 :: ob103 B0 S11 caq13 ccq14 caq15 ccq16 :: ro2 caq13 ccq14 S11.cell :: ro96 caq15 ccq16 S11.log :: L)) _ := h
          refine then_normal ?_
          refine wp_ret ?_
          refine end_retC (cs := [.int .i64 S10.head_t_Base, .int .i64 S10.head_t_Frames, .int .i64 S10.head_frame, .int .i64 S10.head_stands, .int .i64 S10.head_code, .int .i64 S10.head_v, .int .i64 S10.kind, .int .i64 S10.slot, .int .i64 S10.give]) rfl hr (by kernel_rfl) (by kernel_rfl) (by kernel_rfl) ⟨h.cell 0 rfl, h.cell 1 rfl, h.cell 2 rfl, h.cell 3 rfl, h.cell 4 rfl, h.cell 5 rfl, h.cell 6 rfl, h.cell 7 rfl, h.cell 8 rfl, trivial⟩ ?_
          replace h : Fit z (sepL (ob103 B0 S11 caq13 ccq14 caq15 ccq16 :: ro2 caq13 ccq14 S11.cell :: ro96 caq15 ccq16 S11.log :: L)) _ := h.sel 5 [2, 3, 4] (by kernel_rfl) (by kernel_rfl)
          replace H := ej2 H; obtain ⟨rfl, rfl⟩ := H
          exact ⟨caq13, ccq14, caq15, ccq16, rfl, h⟩
      ·
        replace H := ifF c17 H
        refine cond_tt hr (b := (r9 != (0 : Int))) (bne_iff_ne.mpr c17) ?_
        refine wp_region_lit ?_
        replace H := bd1 H; obtain ⟨S19, e20, H⟩ := H
        refine ov hr (.pointer (some ⟨b5, 0, none⟩)) (by kernel_rfl) ?_; clear hr a; intro a hr
        have hc := frames_head_end_ok (H := e20) (h := h)
        refine op_call (wn rfl) rfl rfl hr (f := 56) (args := #[.pointer (some ⟨b5, 0, none⟩), .int .i64 1, .int .i64 0]) (by kernel_rfl) hc ?_; clear hc h
        rintro _ w ⟨rfl, h⟩; refine ⟨_, rfl, ?_⟩
        clear hr a; intro a hr
        refine wpList_nil ?_
        refine then_normal ?_
        refine wp_seq ?_
        refine wp_region_lit ?_
        refine op_val (wn rfl) rfl rfl hr (v := .agg #[.int .i64 S19.head_t_Base, .int .i64 S19.head_t_Frames, .int .i64 S19.head_frame, .int .i64 S19.head_stands, .int .i64 S19.head_code, .int .i64 S19.head_v, .int .i64 S19.kind, .int .i64 S19.slot, .int .i64 S19.give]) (rlm (cs := [.int .i64 S19.head_t_Base, .int .i64 S19.head_t_Frames, .int .i64 S19.head_frame, .int .i64 S19.head_stands, .int .i64 S19.head_code, .int .i64 S19.head_v, .int .i64 S19.kind, .int .i64 S19.slot, .int .i64 S19.give]) rfl (by kernel_rfl) (by kernel_rfl) (by kernel_rfl) ⟨h.cell 0 rfl, h.cell 1 rfl, h.cell 2 rfl, h.cell 3 rfl, h.cell 4 rfl, h.cell 5 rfl, h.cell 6 rfl, h.cell 7 rfl, h.cell 8 rfl, trivial⟩) ?_; clear hr a; intro a hr
        replace h : Fit z (sepL (pts b6 (.cells #[.int .i64 0, .int .i64 0, .int .i64 0, .int .i64 0, .int .i64 0, .int .i64 0, .int .i64 0, .int .i64 0, .int .i64 0] 50) :: ob50 b5 S19 :: ob103 B0 S11 caq13 ccq14 caq15 ccq16 :: ro2 caq13 ccq14 S11.cell :: ro96 caq15 ccq16 S11.log :: L)) _ := h.sel 5 [4, 0, 1, 2, 3] (by kernel_rfl) (by kernel_rfl)
        refine op_stores (wn rfl) rfl hr rfl (by kernel_rfl) (by kernel_rfl) (vs := [.int .i64 S19.head_t_Base, .int .i64 S19.head_t_Frames, .int .i64 S19.head_frame, .int .i64 S19.head_stands, .int .i64 S19.head_code, .int .i64 S19.head_v, .int .i64 S19.kind, .int .i64 S19.slot, .int .i64 S19.give]) rfl rfl (by kernel_rfl) h (i := 0) (cs' := #[.int .i64 S19.head_t_Base, .int .i64 S19.head_t_Frames, .int .i64 S19.head_frame, .int .i64 S19.head_stands, .int .i64 S19.head_code, .int .i64 S19.head_v, .int .i64 S19.kind, .int .i64 S19.slot, .int .i64 S19.give]) rfl ?_; clear h; intro w h
        refine wpList_nil ?_
        replace h : Fit z (sepL (ob50 b6 S19 :: ob50 b5 S19 :: ob103 B0 S11 caq13 ccq14 caq15 ccq16 :: ro2 caq13 ccq14 S11.cell :: ro96 caq15 ccq16 S11.log :: L)) _ := h
        refine then_normal ?_
        refine wp_ret ?_
        refine end_retC (cs := [.int .i64 S19.head_t_Base, .int .i64 S19.head_t_Frames, .int .i64 S19.head_frame, .int .i64 S19.head_stands, .int .i64 S19.head_code, .int .i64 S19.head_v, .int .i64 S19.kind, .int .i64 S19.slot, .int .i64 S19.give]) rfl hr (by kernel_rfl) (by kernel_rfl) (by kernel_rfl) ⟨h.cell 0 rfl, h.cell 1 rfl, h.cell 2 rfl, h.cell 3 rfl, h.cell 4 rfl, h.cell 5 rfl, h.cell 6 rfl, h.cell 7 rfl, h.cell 8 rfl, trivial⟩ ?_
        replace h : Fit z (sepL (ob103 B0 S11 caq13 ccq14 caq15 ccq16 :: ro2 caq13 ccq14 S11.cell :: ro96 caq15 ccq16 S11.log :: L)) _ := h.sel 5 [2, 3, 4] (by kernel_rfl) (by kernel_rfl)
        replace H := ej2 H; obtain ⟨rfl, rfl⟩ := H
        exact ⟨caq13, ccq14, caq15, ccq16, rfl, h⟩
    ·
      replace H := ifF c8 H
      refine cond_ff hr (b := (p1.kind == (0 : Int))) (beq_eq_false_iff_ne.mpr c8) ?_
      refine wp_seq ?_
      refine wp_region_lit ?_
      refine ovs [7, 6] [.bool (p1.kind == (1 : Int)), .bool (p1.kind == (1 : Int))] hr ⟨rfl, rfl⟩ (by kernel_rfl) ?_; clear hr a; intro a hr
      refine wpList_nil ?_
      refine then_normal ?_
      by_cases c21 : p1.kind = (1 : Int)
      ·
        replace H := ifT c21 H
        refine cond_tt hr (b := (p1.kind == (1 : Int))) (beq_iff_eq.mpr c21) ?_
        refine wp_seq ?_
        refine wp_region_lit ?_
        refine ov hr (.func (.func 82) #[] #[]) (by kernel_rfl) ?_; clear hr a; intro a hr
        refine wpList_nil ?_
        refine then_normal ?_
        refine wp_ret ?_
        refine blk_ret ?_
        refine then_ret ?_
        refine end_ret1 (v := .func (.func 82) #[] #[]) rfl hr (by kernel_rfl) ?_
        refine ⟨_, rfl, ?_⟩; clear hr a; intro a hr
        replace H := bd3 H; obtain ⟨r22, S23, S24, e25, H⟩ := H
        refine ov hr (.iface 26 (.pointer (some ⟨B0, 0, none⟩))) (by kernel_rfl) ?_; clear hr a; intro a hr
        replace h : Fit z (sepL (ob50 b5 p1 :: ob103 B0 p0 ca1 cc2 ca3 cc4 :: ro2 ca1 cc2 p0.cell :: ro96 ca3 cc4 p0.log :: pts b6 (.cells #[.int .i64 0, .int .i64 0, .int .i64 0, .int .i64 0, .int .i64 0, .int .i64 0, .int .i64 0, .int .i64 0, .int .i64 0] 50) :: L)) _ := h.sel 5 [1, 2, 3, 4, 0] (by kernel_rfl) (by kernel_rfl)
        have hc := frames_Op_fork_iface_ok (H := e25) (h := h)
        refine op_call (wn rfl) rfl rfl hr (f := 82) (args := #[.pointer (some ⟨b5, 0, none⟩), .iface 26 (.pointer (some ⟨B0, 0, none⟩))]) (by kernel_rfl) hc ?_; clear hc h
        rintro _ w ⟨caq26, ccq27, caq28, ccq29, rfl, h⟩; refine ⟨_, rfl, ?_⟩
        clear hr a; intro a hr
        refine ov hr (.int .i64 r22) (by kernel_rfl) ?_; clear hr a; intro a hr
        refine wpList_nil ?_
        refine then_normal ?_
        refine wp_seq ?_
        refine wp_region_lit ?_
        refine ovs [21, 22] [.int .i64 r22, .bool (r22 != (0 : Int))] hr ⟨rfl, rfl⟩ (by kernel_rfl) ?_; clear hr a; intro a hr
        refine wpList_nil ?_
        refine then_normal ?_
        by_cases c30 : r22 = (0 : Int)
        ·
          replace H := ifT c30 H
          refine cond_ff hr (b := (r22 != (0 : Int))) (bne_eq_false_iff_eq.mpr c30) ?_
          refine wp_seq ?_
          refine wp_region_lit ?_
          refine ovs [25, 26] [.pointer (some ⟨b5, 0, none⟩), .pointer (some ⟨b5, 3, none⟩)] hr ⟨rfl, rfl⟩ (by kernel_rfl) ?_; clear hr a; intro a hr
          refine op_val (wn rfl) rfl rfl hr (v := .int .i64 S23.head_stands) (rl rfl (by kernel_rfl) (by kernel_rfl) (h.cell 3 rfl)) ?_; clear hr a; intro a hr
          refine ov hr (.bool (decide (S23.head_stands > (0 : Int)))) (by kernel_rfl) ?_; clear hr a; intro a hr
          refine wpList_nil ?_
          refine then_normal ?_
          by_cases c31 : S23.head_stands > (0 : Int)
          ·
            replace H := ifT c31 H
            refine cond_tt hr (b := (decide (S23.head_stands > (0 : Int)))) (decide_eq_true c31) ?_
            refine wp_region_lit ?_
            refine ovs [29, 30] [.pointer (some ⟨b5, 0, none⟩), .pointer (some ⟨b5, 3, none⟩)] hr ⟨rfl, rfl⟩ (by kernel_rfl) ?_; clear hr a; intro a hr
            refine op_val (wn rfl) rfl rfl hr (v := .int .i64 S23.head_stands) (rl rfl (by kernel_rfl) (by kernel_rfl) (h.cell 3 rfl)) ?_; clear hr a; intro a hr
            refine ovs [32, 33, 34] [.int .i64 (wi (S23.head_stands + (1 : Int))), .pointer (some ⟨b5, 0, none⟩), .pointer (some ⟨b5, 3, none⟩)] hr ⟨rfl, rfl⟩ (by kernel_rfl) ?_; clear hr a; intro a hr
            refine op_store (wn rfl) rfl hr rfl (by kernel_rfl) (by kernel_rfl) (v := .int .i64 (wi (S23.head_stands + (1 : Int)))) rfl rfl (by kernel_rfl) h (i := 3) rfl ?_; clear h; intro w h
            refine wpList_nil ?_
            replace h : Fit z (sepL (pts b5 (.cells #[.int .i64 S23.head_t_Base, .int .i64 S23.head_t_Frames, .int .i64 S23.head_frame, .int .i64 (wi (S23.head_stands + (1 : Int))), .int .i64 S23.head_code, .int .i64 S23.head_v, .int .i64 S23.kind, .int .i64 S23.slot, .int .i64 S23.give] 50) :: ob103 B0 S24 caq26 ccq27 caq28 ccq29 :: ro2 caq26 ccq27 S24.cell :: ro96 caq28 ccq29 S24.log :: pts b6 (.cells #[.int .i64 0, .int .i64 0, .int .i64 0, .int .i64 0, .int .i64 0, .int .i64 0, .int .i64 0, .int .i64 0, .int .i64 0] 50) :: L)) _ := h
            refine then_normal ?_
            refine wp_seq ?_
            refine wp_region_lit ?_
            refine op_val (wn rfl) rfl rfl hr (v := .agg #[.int .i64 S23.head_t_Base, .int .i64 S23.head_t_Frames, .int .i64 S23.head_frame, .int .i64 (wi (S23.head_stands + (1 : Int))), .int .i64 S23.head_code, .int .i64 S23.head_v, .int .i64 S23.kind, .int .i64 S23.slot, .int .i64 S23.give]) (rlm (cs := [.int .i64 S23.head_t_Base, .int .i64 S23.head_t_Frames, .int .i64 S23.head_frame, .int .i64 (wi (S23.head_stands + (1 : Int))), .int .i64 S23.head_code, .int .i64 S23.head_v, .int .i64 S23.kind, .int .i64 S23.slot, .int .i64 S23.give]) rfl (by kernel_rfl) (by kernel_rfl) (by kernel_rfl) ⟨h.cell 0 rfl, h.cell 1 rfl, h.cell 2 rfl, h.cell 3 rfl, h.cell 4 rfl, h.cell 5 rfl, h.cell 6 rfl, h.cell 7 rfl, h.cell 8 rfl, trivial⟩) ?_; clear hr a; intro a hr
            replace h : Fit z (sepL (pts b6 (.cells #[.int .i64 0, .int .i64 0, .int .i64 0, .int .i64 0, .int .i64 0, .int .i64 0, .int .i64 0, .int .i64 0, .int .i64 0] 50) :: pts b5 (.cells #[.int .i64 S23.head_t_Base, .int .i64 S23.head_t_Frames, .int .i64 S23.head_frame, .int .i64 (wi (S23.head_stands + (1 : Int))), .int .i64 S23.head_code, .int .i64 S23.head_v, .int .i64 S23.kind, .int .i64 S23.slot, .int .i64 S23.give] 50) :: ob103 B0 S24 caq26 ccq27 caq28 ccq29 :: ro2 caq26 ccq27 S24.cell :: ro96 caq28 ccq29 S24.log :: L)) _ := h.sel 5 [4, 0, 1, 2, 3] (by kernel_rfl) (by kernel_rfl)
            refine op_stores (wn rfl) rfl hr rfl (by kernel_rfl) (by kernel_rfl) (vs := [.int .i64 S23.head_t_Base, .int .i64 S23.head_t_Frames, .int .i64 S23.head_frame, .int .i64 (wi (S23.head_stands + (1 : Int))), .int .i64 S23.head_code, .int .i64 S23.head_v, .int .i64 S23.kind, .int .i64 S23.slot, .int .i64 S23.give]) rfl rfl (by kernel_rfl) h (i := 0) (cs' := #[.int .i64 S23.head_t_Base, .int .i64 S23.head_t_Frames, .int .i64 S23.head_frame, .int .i64 (wi (S23.head_stands + (1 : Int))), .int .i64 S23.head_code, .int .i64 S23.head_v, .int .i64 S23.kind, .int .i64 S23.slot, .int .i64 S23.give]) rfl ?_; clear h; intro w h
            refine wpList_nil ?_
            replace h : Fit z (sepL (pts b6 (.cells #[.int .i64 S23.head_t_Base, .int .i64 S23.head_t_Frames, .int .i64 S23.head_frame, .int .i64 (wi (S23.head_stands + (1 : Int))), .int .i64 S23.head_code, .int .i64 S23.head_v, .int .i64 S23.kind, .int .i64 S23.slot, .int .i64 S23.give] 50) :: pts b5 (.cells #[.int .i64 S23.head_t_Base, .int .i64 S23.head_t_Frames, .int .i64 S23.head_frame, .int .i64 (wi (S23.head_stands + (1 : Int))), .int .i64 S23.head_code, .int .i64 S23.head_v, .int .i64 S23.kind, .int .i64 S23.slot, .int .i64 S23.give] 50) :: ob103 B0 S24 caq26 ccq27 caq28 ccq29 :: ro2 caq26 ccq27 S24.cell :: ro96 caq28 ccq29 S24.log :: L)) _ := h
            refine then_normal ?_
            refine wp_ret ?_
            refine end_retC (cs := [.int .i64 S23.head_t_Base, .int .i64 S23.head_t_Frames, .int .i64 S23.head_frame, .int .i64 (wi (S23.head_stands + (1 : Int))), .int .i64 S23.head_code, .int .i64 S23.head_v, .int .i64 S23.kind, .int .i64 S23.slot, .int .i64 S23.give]) rfl hr (by kernel_rfl) (by kernel_rfl) (by kernel_rfl) ⟨h.cell 0 rfl, h.cell 1 rfl, h.cell 2 rfl, h.cell 3 rfl, h.cell 4 rfl, h.cell 5 rfl, h.cell 6 rfl, h.cell 7 rfl, h.cell 8 rfl, trivial⟩ ?_
            replace h : Fit z (sepL (ob103 B0 S24 caq26 ccq27 caq28 ccq29 :: ro2 caq26 ccq27 S24.cell :: ro96 caq28 ccq29 S24.log :: L)) _ := h.sel 5 [2, 3, 4] (by kernel_rfl) (by kernel_rfl)
            replace H := ej2 H; obtain ⟨rfl, rfl⟩ := H
            exact ⟨caq26, ccq27, caq28, ccq29, rfl, h⟩
          ·
            replace H := ifF c31 H
            refine cond_ff hr (b := (decide (S23.head_stands > (0 : Int)))) (decide_eq_false c31) ?_
            refine wp_skip ?_
            refine then_normal ?_
            refine wp_seq ?_
            refine wp_region_lit ?_
            refine op_val (wn rfl) rfl rfl hr (v := .agg #[.int .i64 S23.head_t_Base, .int .i64 S23.head_t_Frames, .int .i64 S23.head_frame, .int .i64 S23.head_stands, .int .i64 S23.head_code, .int .i64 S23.head_v, .int .i64 S23.kind, .int .i64 S23.slot, .int .i64 S23.give]) (rlm (cs := [.int .i64 S23.head_t_Base, .int .i64 S23.head_t_Frames, .int .i64 S23.head_frame, .int .i64 S23.head_stands, .int .i64 S23.head_code, .int .i64 S23.head_v, .int .i64 S23.kind, .int .i64 S23.slot, .int .i64 S23.give]) rfl (by kernel_rfl) (by kernel_rfl) (by kernel_rfl) ⟨h.cell 0 rfl, h.cell 1 rfl, h.cell 2 rfl, h.cell 3 rfl, h.cell 4 rfl, h.cell 5 rfl, h.cell 6 rfl, h.cell 7 rfl, h.cell 8 rfl, trivial⟩) ?_; clear hr a; intro a hr
            replace h : Fit z (sepL (pts b6 (.cells #[.int .i64 0, .int .i64 0, .int .i64 0, .int .i64 0, .int .i64 0, .int .i64 0, .int .i64 0, .int .i64 0, .int .i64 0] 50) :: ob50 b5 S23 :: ob103 B0 S24 caq26 ccq27 caq28 ccq29 :: ro2 caq26 ccq27 S24.cell :: ro96 caq28 ccq29 S24.log :: L)) _ := h.sel 5 [4, 0, 1, 2, 3] (by kernel_rfl) (by kernel_rfl)
            refine op_stores (wn rfl) rfl hr rfl (by kernel_rfl) (by kernel_rfl) (vs := [.int .i64 S23.head_t_Base, .int .i64 S23.head_t_Frames, .int .i64 S23.head_frame, .int .i64 S23.head_stands, .int .i64 S23.head_code, .int .i64 S23.head_v, .int .i64 S23.kind, .int .i64 S23.slot, .int .i64 S23.give]) rfl rfl (by kernel_rfl) h (i := 0) (cs' := #[.int .i64 S23.head_t_Base, .int .i64 S23.head_t_Frames, .int .i64 S23.head_frame, .int .i64 S23.head_stands, .int .i64 S23.head_code, .int .i64 S23.head_v, .int .i64 S23.kind, .int .i64 S23.slot, .int .i64 S23.give]) rfl ?_; clear h; intro w h
            refine wpList_nil ?_
            replace h : Fit z (sepL (ob50 b6 S23 :: ob50 b5 S23 :: ob103 B0 S24 caq26 ccq27 caq28 ccq29 :: ro2 caq26 ccq27 S24.cell :: ro96 caq28 ccq29 S24.log :: L)) _ := h
            refine then_normal ?_
            refine wp_ret ?_
            refine end_retC (cs := [.int .i64 S23.head_t_Base, .int .i64 S23.head_t_Frames, .int .i64 S23.head_frame, .int .i64 S23.head_stands, .int .i64 S23.head_code, .int .i64 S23.head_v, .int .i64 S23.kind, .int .i64 S23.slot, .int .i64 S23.give]) rfl hr (by kernel_rfl) (by kernel_rfl) (by kernel_rfl) ⟨h.cell 0 rfl, h.cell 1 rfl, h.cell 2 rfl, h.cell 3 rfl, h.cell 4 rfl, h.cell 5 rfl, h.cell 6 rfl, h.cell 7 rfl, h.cell 8 rfl, trivial⟩ ?_
            replace h : Fit z (sepL (ob103 B0 S24 caq26 ccq27 caq28 ccq29 :: ro2 caq26 ccq27 S24.cell :: ro96 caq28 ccq29 S24.log :: L)) _ := h.sel 5 [2, 3, 4] (by kernel_rfl) (by kernel_rfl)
            replace H := ej2 H; obtain ⟨rfl, rfl⟩ := H
            exact ⟨caq26, ccq27, caq28, ccq29, rfl, h⟩
        ·
          replace H := ifF c30 H
          refine cond_tt hr (b := (r22 != (0 : Int))) (bne_iff_ne.mpr c30) ?_
          refine wp_region_lit ?_
          replace H := bd1 H; obtain ⟨S32, e33, H⟩ := H
          refine ov hr (.pointer (some ⟨b5, 0, none⟩)) (by kernel_rfl) ?_; clear hr a; intro a hr
          have hc := frames_head_end_ok (H := e33) (h := h)
          refine op_call (wn rfl) rfl rfl hr (f := 56) (args := #[.pointer (some ⟨b5, 0, none⟩), .int .i64 1, .int .i64 0]) (by kernel_rfl) hc ?_; clear hc h
          rintro _ w ⟨rfl, h⟩; refine ⟨_, rfl, ?_⟩
          clear hr a; intro a hr
          refine wpList_nil ?_
          refine then_normal ?_
          refine wp_seq ?_
          refine wp_region_lit ?_
          refine op_val (wn rfl) rfl rfl hr (v := .agg #[.int .i64 S32.head_t_Base, .int .i64 S32.head_t_Frames, .int .i64 S32.head_frame, .int .i64 S32.head_stands, .int .i64 S32.head_code, .int .i64 S32.head_v, .int .i64 S32.kind, .int .i64 S32.slot, .int .i64 S32.give]) (rlm (cs := [.int .i64 S32.head_t_Base, .int .i64 S32.head_t_Frames, .int .i64 S32.head_frame, .int .i64 S32.head_stands, .int .i64 S32.head_code, .int .i64 S32.head_v, .int .i64 S32.kind, .int .i64 S32.slot, .int .i64 S32.give]) rfl (by kernel_rfl) (by kernel_rfl) (by kernel_rfl) ⟨h.cell 0 rfl, h.cell 1 rfl, h.cell 2 rfl, h.cell 3 rfl, h.cell 4 rfl, h.cell 5 rfl, h.cell 6 rfl, h.cell 7 rfl, h.cell 8 rfl, trivial⟩) ?_; clear hr a; intro a hr
          replace h : Fit z (sepL (pts b6 (.cells #[.int .i64 0, .int .i64 0, .int .i64 0, .int .i64 0, .int .i64 0, .int .i64 0, .int .i64 0, .int .i64 0, .int .i64 0] 50) :: ob50 b5 S32 :: ob103 B0 S24 caq26 ccq27 caq28 ccq29 :: ro2 caq26 ccq27 S24.cell :: ro96 caq28 ccq29 S24.log :: L)) _ := h.sel 5 [4, 0, 1, 2, 3] (by kernel_rfl) (by kernel_rfl)
          refine op_stores (wn rfl) rfl hr rfl (by kernel_rfl) (by kernel_rfl) (vs := [.int .i64 S32.head_t_Base, .int .i64 S32.head_t_Frames, .int .i64 S32.head_frame, .int .i64 S32.head_stands, .int .i64 S32.head_code, .int .i64 S32.head_v, .int .i64 S32.kind, .int .i64 S32.slot, .int .i64 S32.give]) rfl rfl (by kernel_rfl) h (i := 0) (cs' := #[.int .i64 S32.head_t_Base, .int .i64 S32.head_t_Frames, .int .i64 S32.head_frame, .int .i64 S32.head_stands, .int .i64 S32.head_code, .int .i64 S32.head_v, .int .i64 S32.kind, .int .i64 S32.slot, .int .i64 S32.give]) rfl ?_; clear h; intro w h
          refine wpList_nil ?_
          replace h : Fit z (sepL (ob50 b6 S32 :: ob50 b5 S32 :: ob103 B0 S24 caq26 ccq27 caq28 ccq29 :: ro2 caq26 ccq27 S24.cell :: ro96 caq28 ccq29 S24.log :: L)) _ := h
          refine then_normal ?_
          refine wp_ret ?_
          refine end_retC (cs := [.int .i64 S32.head_t_Base, .int .i64 S32.head_t_Frames, .int .i64 S32.head_frame, .int .i64 S32.head_stands, .int .i64 S32.head_code, .int .i64 S32.head_v, .int .i64 S32.kind, .int .i64 S32.slot, .int .i64 S32.give]) rfl hr (by kernel_rfl) (by kernel_rfl) (by kernel_rfl) ⟨h.cell 0 rfl, h.cell 1 rfl, h.cell 2 rfl, h.cell 3 rfl, h.cell 4 rfl, h.cell 5 rfl, h.cell 6 rfl, h.cell 7 rfl, h.cell 8 rfl, trivial⟩ ?_
          replace h : Fit z (sepL (ob103 B0 S24 caq26 ccq27 caq28 ccq29 :: ro2 caq26 ccq27 S24.cell :: ro96 caq28 ccq29 S24.log :: L)) _ := h.sel 5 [2, 3, 4] (by kernel_rfl) (by kernel_rfl)
          replace H := ej2 H; obtain ⟨rfl, rfl⟩ := H
          exact ⟨caq26, ccq27, caq28, ccq29, rfl, h⟩
      ·
        replace H := ifF c21 H
        refine cond_ff hr (b := (p1.kind == (1 : Int))) (beq_eq_false_iff_ne.mpr c21) ?_
        refine wp_seq ?_
        refine wp_region_lit ?_
        refine ovs [9, 8] [.bool (p1.kind == (2 : Int)), .bool (p1.kind == (2 : Int))] hr ⟨rfl, rfl⟩ (by kernel_rfl) ?_; clear hr a; intro a hr
        refine wpList_nil ?_
        refine then_normal ?_
        by_cases c34 : p1.kind = (2 : Int)
        ·
          replace H := ifT c34 H
          refine cond_tt hr (b := (p1.kind == (2 : Int))) (beq_iff_eq.mpr c34) ?_
          refine wp_seq ?_
          refine wp_region_lit ?_
          refine ov hr (.func (.func 83) #[] #[]) (by kernel_rfl) ?_; clear hr a; intro a hr
          refine wpList_nil ?_
          refine then_normal ?_
          refine wp_ret ?_
          refine blk_ret ?_
          refine then_ret ?_
          refine end_ret1 (v := .func (.func 83) #[] #[]) rfl hr (by kernel_rfl) ?_
          refine ⟨_, rfl, ?_⟩; clear hr a; intro a hr
          replace H := bd3 H; obtain ⟨r35, S36, S37, e38, H⟩ := H
          refine ov hr (.iface 26 (.pointer (some ⟨B0, 0, none⟩))) (by kernel_rfl) ?_; clear hr a; intro a hr
          replace h : Fit z (sepL (ob50 b5 p1 :: ob103 B0 p0 ca1 cc2 ca3 cc4 :: ro2 ca1 cc2 p0.cell :: ro96 ca3 cc4 p0.log :: pts b6 (.cells #[.int .i64 0, .int .i64 0, .int .i64 0, .int .i64 0, .int .i64 0, .int .i64 0, .int .i64 0, .int .i64 0, .int .i64 0] 50) :: L)) _ := h.sel 5 [1, 2, 3, 4, 0] (by kernel_rfl) (by kernel_rfl)
          have hc := frames_Op_finish_iface_ok (H := e38) (h := h)
          refine op_call (wn rfl) rfl rfl hr (f := 83) (args := #[.pointer (some ⟨b5, 0, none⟩), .iface 26 (.pointer (some ⟨B0, 0, none⟩))]) (by kernel_rfl) hc ?_; clear hc h
          rintro _ w ⟨caq39, ccq40, caq41, ccq42, rfl, h⟩; refine ⟨_, rfl, ?_⟩
          clear hr a; intro a hr
          refine ov hr (.int .i64 r35) (by kernel_rfl) ?_; clear hr a; intro a hr
          refine wpList_nil ?_
          refine then_normal ?_
          refine wp_seq ?_
          refine wp_region_lit ?_
          refine ovs [21, 22] [.int .i64 r35, .bool (r35 != (0 : Int))] hr ⟨rfl, rfl⟩ (by kernel_rfl) ?_; clear hr a; intro a hr
          refine wpList_nil ?_
          refine then_normal ?_
          by_cases c43 : r35 = (0 : Int)
          ·
            replace H := ifT c43 H
            refine cond_ff hr (b := (r35 != (0 : Int))) (bne_eq_false_iff_eq.mpr c43) ?_
            refine wp_seq ?_
            refine wp_region_lit ?_
            refine ovs [25, 26] [.pointer (some ⟨b5, 0, none⟩), .pointer (some ⟨b5, 3, none⟩)] hr ⟨rfl, rfl⟩ (by kernel_rfl) ?_; clear hr a; intro a hr
            refine op_val (wn rfl) rfl rfl hr (v := .int .i64 S36.head_stands) (rl rfl (by kernel_rfl) (by kernel_rfl) (h.cell 3 rfl)) ?_; clear hr a; intro a hr
            refine ov hr (.bool (decide (S36.head_stands > (0 : Int)))) (by kernel_rfl) ?_; clear hr a; intro a hr
            refine wpList_nil ?_
            refine then_normal ?_
            by_cases c44 : S36.head_stands > (0 : Int)
            ·
              replace H := ifT c44 H
              refine cond_tt hr (b := (decide (S36.head_stands > (0 : Int)))) (decide_eq_true c44) ?_
              refine wp_region_lit ?_
              refine ovs [29, 30] [.pointer (some ⟨b5, 0, none⟩), .pointer (some ⟨b5, 3, none⟩)] hr ⟨rfl, rfl⟩ (by kernel_rfl) ?_; clear hr a; intro a hr
              refine op_val (wn rfl) rfl rfl hr (v := .int .i64 S36.head_stands) (rl rfl (by kernel_rfl) (by kernel_rfl) (h.cell 3 rfl)) ?_; clear hr a; intro a hr
              refine ovs [32, 33, 34] [.int .i64 (wi (S36.head_stands + (1 : Int))), .pointer (some ⟨b5, 0, none⟩), .pointer (some ⟨b5, 3, none⟩)] hr ⟨rfl, rfl⟩ (by kernel_rfl) ?_; clear hr a; intro a hr
              refine op_store (wn rfl) rfl hr rfl (by kernel_rfl) (by kernel_rfl) (v := .int .i64 (wi (S36.head_stands + (1 : Int)))) rfl rfl (by kernel_rfl) h (i := 3) rfl ?_; clear h; intro w h
              refine wpList_nil ?_
              replace h : Fit z (sepL (pts b5 (.cells #[.int .i64 S36.head_t_Base, .int .i64 S36.head_t_Frames, .int .i64 S36.head_frame, .int .i64 (wi (S36.head_stands + (1 : Int))), .int .i64 S36.head_code, .int .i64 S36.head_v, .int .i64 S36.kind, .int .i64 S36.slot, .int .i64 S36.give] 50) :: ob103 B0 S37 caq39 ccq40 caq41 ccq42 :: ro2 caq39 ccq40 S37.cell :: ro96 caq41 ccq42 S37.log :: pts b6 (.cells #[.int .i64 0, .int .i64 0, .int .i64 0, .int .i64 0, .int .i64 0, .int .i64 0, .int .i64 0, .int .i64 0, .int .i64 0] 50) :: L)) _ := h
              refine then_normal ?_
              refine wp_seq ?_
              refine wp_region_lit ?_
              refine op_val (wn rfl) rfl rfl hr (v := .agg #[.int .i64 S36.head_t_Base, .int .i64 S36.head_t_Frames, .int .i64 S36.head_frame, .int .i64 (wi (S36.head_stands + (1 : Int))), .int .i64 S36.head_code, .int .i64 S36.head_v, .int .i64 S36.kind, .int .i64 S36.slot, .int .i64 S36.give]) (rlm (cs := [.int .i64 S36.head_t_Base, .int .i64 S36.head_t_Frames, .int .i64 S36.head_frame, .int .i64 (wi (S36.head_stands + (1 : Int))), .int .i64 S36.head_code, .int .i64 S36.head_v, .int .i64 S36.kind, .int .i64 S36.slot, .int .i64 S36.give]) rfl (by kernel_rfl) (by kernel_rfl) (by kernel_rfl) ⟨h.cell 0 rfl, h.cell 1 rfl, h.cell 2 rfl, h.cell 3 rfl, h.cell 4 rfl, h.cell 5 rfl, h.cell 6 rfl, h.cell 7 rfl, h.cell 8 rfl, trivial⟩) ?_; clear hr a; intro a hr
              replace h : Fit z (sepL (pts b6 (.cells #[.int .i64 0, .int .i64 0, .int .i64 0, .int .i64 0, .int .i64 0, .int .i64 0, .int .i64 0, .int .i64 0, .int .i64 0] 50) :: pts b5 (.cells #[.int .i64 S36.head_t_Base, .int .i64 S36.head_t_Frames, .int .i64 S36.head_frame, .int .i64 (wi (S36.head_stands + (1 : Int))), .int .i64 S36.head_code, .int .i64 S36.head_v, .int .i64 S36.kind, .int .i64 S36.slot, .int .i64 S36.give] 50) :: ob103 B0 S37 caq39 ccq40 caq41 ccq42 :: ro2 caq39 ccq40 S37.cell :: ro96 caq41 ccq42 S37.log :: L)) _ := h.sel 5 [4, 0, 1, 2, 3] (by kernel_rfl) (by kernel_rfl)
              refine op_stores (wn rfl) rfl hr rfl (by kernel_rfl) (by kernel_rfl) (vs := [.int .i64 S36.head_t_Base, .int .i64 S36.head_t_Frames, .int .i64 S36.head_frame, .int .i64 (wi (S36.head_stands + (1 : Int))), .int .i64 S36.head_code, .int .i64 S36.head_v, .int .i64 S36.kind, .int .i64 S36.slot, .int .i64 S36.give]) rfl rfl (by kernel_rfl) h (i := 0) (cs' := #[.int .i64 S36.head_t_Base, .int .i64 S36.head_t_Frames, .int .i64 S36.head_frame, .int .i64 (wi (S36.head_stands + (1 : Int))), .int .i64 S36.head_code, .int .i64 S36.head_v, .int .i64 S36.kind, .int .i64 S36.slot, .int .i64 S36.give]) rfl ?_; clear h; intro w h
              refine wpList_nil ?_
              replace h : Fit z (sepL (pts b6 (.cells #[.int .i64 S36.head_t_Base, .int .i64 S36.head_t_Frames, .int .i64 S36.head_frame, .int .i64 (wi (S36.head_stands + (1 : Int))), .int .i64 S36.head_code, .int .i64 S36.head_v, .int .i64 S36.kind, .int .i64 S36.slot, .int .i64 S36.give] 50) :: pts b5 (.cells #[.int .i64 S36.head_t_Base, .int .i64 S36.head_t_Frames, .int .i64 S36.head_frame, .int .i64 (wi (S36.head_stands + (1 : Int))), .int .i64 S36.head_code, .int .i64 S36.head_v, .int .i64 S36.kind, .int .i64 S36.slot, .int .i64 S36.give] 50) :: ob103 B0 S37 caq39 ccq40 caq41 ccq42 :: ro2 caq39 ccq40 S37.cell :: ro96 caq41 ccq42 S37.log :: L)) _ := h
              refine then_normal ?_
              refine wp_ret ?_
              refine end_retC (cs := [.int .i64 S36.head_t_Base, .int .i64 S36.head_t_Frames, .int .i64 S36.head_frame, .int .i64 (wi (S36.head_stands + (1 : Int))), .int .i64 S36.head_code, .int .i64 S36.head_v, .int .i64 S36.kind, .int .i64 S36.slot, .int .i64 S36.give]) rfl hr (by kernel_rfl) (by kernel_rfl) (by kernel_rfl) ⟨h.cell 0 rfl, h.cell 1 rfl, h.cell 2 rfl, h.cell 3 rfl, h.cell 4 rfl, h.cell 5 rfl, h.cell 6 rfl, h.cell 7 rfl, h.cell 8 rfl, trivial⟩ ?_
              replace h : Fit z (sepL (ob103 B0 S37 caq39 ccq40 caq41 ccq42 :: ro2 caq39 ccq40 S37.cell :: ro96 caq41 ccq42 S37.log :: L)) _ := h.sel 5 [2, 3, 4] (by kernel_rfl) (by kernel_rfl)
              replace H := ej2 H; obtain ⟨rfl, rfl⟩ := H
              exact ⟨caq39, ccq40, caq41, ccq42, rfl, h⟩
            ·
              replace H := ifF c44 H
              refine cond_ff hr (b := (decide (S36.head_stands > (0 : Int)))) (decide_eq_false c44) ?_
              refine wp_skip ?_
              refine then_normal ?_
              refine wp_seq ?_
              refine wp_region_lit ?_
              refine op_val (wn rfl) rfl rfl hr (v := .agg #[.int .i64 S36.head_t_Base, .int .i64 S36.head_t_Frames, .int .i64 S36.head_frame, .int .i64 S36.head_stands, .int .i64 S36.head_code, .int .i64 S36.head_v, .int .i64 S36.kind, .int .i64 S36.slot, .int .i64 S36.give]) (rlm (cs := [.int .i64 S36.head_t_Base, .int .i64 S36.head_t_Frames, .int .i64 S36.head_frame, .int .i64 S36.head_stands, .int .i64 S36.head_code, .int .i64 S36.head_v, .int .i64 S36.kind, .int .i64 S36.slot, .int .i64 S36.give]) rfl (by kernel_rfl) (by kernel_rfl) (by kernel_rfl) ⟨h.cell 0 rfl, h.cell 1 rfl, h.cell 2 rfl, h.cell 3 rfl, h.cell 4 rfl, h.cell 5 rfl, h.cell 6 rfl, h.cell 7 rfl, h.cell 8 rfl, trivial⟩) ?_; clear hr a; intro a hr
              replace h : Fit z (sepL (pts b6 (.cells #[.int .i64 0, .int .i64 0, .int .i64 0, .int .i64 0, .int .i64 0, .int .i64 0, .int .i64 0, .int .i64 0, .int .i64 0] 50) :: ob50 b5 S36 :: ob103 B0 S37 caq39 ccq40 caq41 ccq42 :: ro2 caq39 ccq40 S37.cell :: ro96 caq41 ccq42 S37.log :: L)) _ := h.sel 5 [4, 0, 1, 2, 3] (by kernel_rfl) (by kernel_rfl)
              refine op_stores (wn rfl) rfl hr rfl (by kernel_rfl) (by kernel_rfl) (vs := [.int .i64 S36.head_t_Base, .int .i64 S36.head_t_Frames, .int .i64 S36.head_frame, .int .i64 S36.head_stands, .int .i64 S36.head_code, .int .i64 S36.head_v, .int .i64 S36.kind, .int .i64 S36.slot, .int .i64 S36.give]) rfl rfl (by kernel_rfl) h (i := 0) (cs' := #[.int .i64 S36.head_t_Base, .int .i64 S36.head_t_Frames, .int .i64 S36.head_frame, .int .i64 S36.head_stands, .int .i64 S36.head_code, .int .i64 S36.head_v, .int .i64 S36.kind, .int .i64 S36.slot, .int .i64 S36.give]) rfl ?_; clear h; intro w h
              refine wpList_nil ?_
              replace h : Fit z (sepL (ob50 b6 S36 :: ob50 b5 S36 :: ob103 B0 S37 caq39 ccq40 caq41 ccq42 :: ro2 caq39 ccq40 S37.cell :: ro96 caq41 ccq42 S37.log :: L)) _ := h
              refine then_normal ?_
              refine wp_ret ?_
              refine end_retC (cs := [.int .i64 S36.head_t_Base, .int .i64 S36.head_t_Frames, .int .i64 S36.head_frame, .int .i64 S36.head_stands, .int .i64 S36.head_code, .int .i64 S36.head_v, .int .i64 S36.kind, .int .i64 S36.slot, .int .i64 S36.give]) rfl hr (by kernel_rfl) (by kernel_rfl) (by kernel_rfl) ⟨h.cell 0 rfl, h.cell 1 rfl, h.cell 2 rfl, h.cell 3 rfl, h.cell 4 rfl, h.cell 5 rfl, h.cell 6 rfl, h.cell 7 rfl, h.cell 8 rfl, trivial⟩ ?_
              replace h : Fit z (sepL (ob103 B0 S37 caq39 ccq40 caq41 ccq42 :: ro2 caq39 ccq40 S37.cell :: ro96 caq41 ccq42 S37.log :: L)) _ := h.sel 5 [2, 3, 4] (by kernel_rfl) (by kernel_rfl)
              replace H := ej2 H; obtain ⟨rfl, rfl⟩ := H
              exact ⟨caq39, ccq40, caq41, ccq42, rfl, h⟩
          ·
            replace H := ifF c43 H
            refine cond_tt hr (b := (r35 != (0 : Int))) (bne_iff_ne.mpr c43) ?_
            refine wp_region_lit ?_
            replace H := bd1 H; obtain ⟨S45, e46, H⟩ := H
            refine ov hr (.pointer (some ⟨b5, 0, none⟩)) (by kernel_rfl) ?_; clear hr a; intro a hr
            have hc := frames_head_end_ok (H := e46) (h := h)
            refine op_call (wn rfl) rfl rfl hr (f := 56) (args := #[.pointer (some ⟨b5, 0, none⟩), .int .i64 1, .int .i64 0]) (by kernel_rfl) hc ?_; clear hc h
            rintro _ w ⟨rfl, h⟩; refine ⟨_, rfl, ?_⟩
            clear hr a; intro a hr
            refine wpList_nil ?_
            refine then_normal ?_
            refine wp_seq ?_
            refine wp_region_lit ?_
            refine op_val (wn rfl) rfl rfl hr (v := .agg #[.int .i64 S45.head_t_Base, .int .i64 S45.head_t_Frames, .int .i64 S45.head_frame, .int .i64 S45.head_stands, .int .i64 S45.head_code, .int .i64 S45.head_v, .int .i64 S45.kind, .int .i64 S45.slot, .int .i64 S45.give]) (rlm (cs := [.int .i64 S45.head_t_Base, .int .i64 S45.head_t_Frames, .int .i64 S45.head_frame, .int .i64 S45.head_stands, .int .i64 S45.head_code, .int .i64 S45.head_v, .int .i64 S45.kind, .int .i64 S45.slot, .int .i64 S45.give]) rfl (by kernel_rfl) (by kernel_rfl) (by kernel_rfl) ⟨h.cell 0 rfl, h.cell 1 rfl, h.cell 2 rfl, h.cell 3 rfl, h.cell 4 rfl, h.cell 5 rfl, h.cell 6 rfl, h.cell 7 rfl, h.cell 8 rfl, trivial⟩) ?_; clear hr a; intro a hr
            replace h : Fit z (sepL (pts b6 (.cells #[.int .i64 0, .int .i64 0, .int .i64 0, .int .i64 0, .int .i64 0, .int .i64 0, .int .i64 0, .int .i64 0, .int .i64 0] 50) :: ob50 b5 S45 :: ob103 B0 S37 caq39 ccq40 caq41 ccq42 :: ro2 caq39 ccq40 S37.cell :: ro96 caq41 ccq42 S37.log :: L)) _ := h.sel 5 [4, 0, 1, 2, 3] (by kernel_rfl) (by kernel_rfl)
            refine op_stores (wn rfl) rfl hr rfl (by kernel_rfl) (by kernel_rfl) (vs := [.int .i64 S45.head_t_Base, .int .i64 S45.head_t_Frames, .int .i64 S45.head_frame, .int .i64 S45.head_stands, .int .i64 S45.head_code, .int .i64 S45.head_v, .int .i64 S45.kind, .int .i64 S45.slot, .int .i64 S45.give]) rfl rfl (by kernel_rfl) h (i := 0) (cs' := #[.int .i64 S45.head_t_Base, .int .i64 S45.head_t_Frames, .int .i64 S45.head_frame, .int .i64 S45.head_stands, .int .i64 S45.head_code, .int .i64 S45.head_v, .int .i64 S45.kind, .int .i64 S45.slot, .int .i64 S45.give]) rfl ?_; clear h; intro w h
            refine wpList_nil ?_
            replace h : Fit z (sepL (ob50 b6 S45 :: ob50 b5 S45 :: ob103 B0 S37 caq39 ccq40 caq41 ccq42 :: ro2 caq39 ccq40 S37.cell :: ro96 caq41 ccq42 S37.log :: L)) _ := h
            refine then_normal ?_
            refine wp_ret ?_
            refine end_retC (cs := [.int .i64 S45.head_t_Base, .int .i64 S45.head_t_Frames, .int .i64 S45.head_frame, .int .i64 S45.head_stands, .int .i64 S45.head_code, .int .i64 S45.head_v, .int .i64 S45.kind, .int .i64 S45.slot, .int .i64 S45.give]) rfl hr (by kernel_rfl) (by kernel_rfl) (by kernel_rfl) ⟨h.cell 0 rfl, h.cell 1 rfl, h.cell 2 rfl, h.cell 3 rfl, h.cell 4 rfl, h.cell 5 rfl, h.cell 6 rfl, h.cell 7 rfl, h.cell 8 rfl, trivial⟩ ?_
            replace h : Fit z (sepL (ob103 B0 S37 caq39 ccq40 caq41 ccq42 :: ro2 caq39 ccq40 S37.cell :: ro96 caq41 ccq42 S37.log :: L)) _ := h.sel 5 [2, 3, 4] (by kernel_rfl) (by kernel_rfl)
            replace H := ej2 H; obtain ⟨rfl, rfl⟩ := H
            exact ⟨caq39, ccq40, caq41, ccq42, rfl, h⟩
        ·
          replace H := ifF c34 H
          refine cond_ff hr (b := (p1.kind == (2 : Int))) (beq_eq_false_iff_ne.mpr c34) ?_
          refine wp_seq ?_
          refine wp_region_lit ?_
          refine ovs [11, 10] [.bool (p1.kind == (3 : Int)), .bool (p1.kind == (3 : Int))] hr ⟨rfl, rfl⟩ (by kernel_rfl) ?_; clear hr a; intro a hr
          refine wpList_nil ?_
          refine then_normal ?_
          by_cases c47 : p1.kind = (3 : Int)
          ·
            replace H := ifT c47 H
            refine cond_tt hr (b := (p1.kind == (3 : Int))) (beq_iff_eq.mpr c47) ?_
            refine wp_seq ?_
            refine wp_region_lit ?_
            refine ov hr (.func (.func 84) #[] #[]) (by kernel_rfl) ?_; clear hr a; intro a hr
            refine wpList_nil ?_
            refine then_normal ?_
            refine wp_ret ?_
            refine blk_ret ?_
            refine then_ret ?_
            refine end_ret1 (v := .func (.func 84) #[] #[]) rfl hr (by kernel_rfl) ?_
            refine ⟨_, rfl, ?_⟩; clear hr a; intro a hr
            replace H := bd3 H; obtain ⟨r48, S49, S50, e51, H⟩ := H
            refine ov hr (.iface 26 (.pointer (some ⟨B0, 0, none⟩))) (by kernel_rfl) ?_; clear hr a; intro a hr
            replace h : Fit z (sepL (ob50 b5 p1 :: ob103 B0 p0 ca1 cc2 ca3 cc4 :: ro2 ca1 cc2 p0.cell :: ro96 ca3 cc4 p0.log :: pts b6 (.cells #[.int .i64 0, .int .i64 0, .int .i64 0, .int .i64 0, .int .i64 0, .int .i64 0, .int .i64 0, .int .i64 0, .int .i64 0] 50) :: L)) _ := h.sel 5 [1, 2, 3, 4, 0] (by kernel_rfl) (by kernel_rfl)
            have hc := frames_Op_sync_iface_ok (H := e51) (h := h)
            refine op_call (wn rfl) rfl rfl hr (f := 84) (args := #[.pointer (some ⟨b5, 0, none⟩), .iface 26 (.pointer (some ⟨B0, 0, none⟩))]) (by kernel_rfl) hc ?_; clear hc h
            rintro _ w ⟨caq52, ccq53, caq54, ccq55, rfl, h⟩; refine ⟨_, rfl, ?_⟩
            clear hr a; intro a hr
            refine ov hr (.int .i64 r48) (by kernel_rfl) ?_; clear hr a; intro a hr
            refine wpList_nil ?_
            refine then_normal ?_
            refine wp_seq ?_
            refine wp_region_lit ?_
            refine ovs [21, 22] [.int .i64 r48, .bool (r48 != (0 : Int))] hr ⟨rfl, rfl⟩ (by kernel_rfl) ?_; clear hr a; intro a hr
            refine wpList_nil ?_
            refine then_normal ?_
            by_cases c56 : r48 = (0 : Int)
            ·
              replace H := ifT c56 H
              refine cond_ff hr (b := (r48 != (0 : Int))) (bne_eq_false_iff_eq.mpr c56) ?_
              refine wp_seq ?_
              refine wp_region_lit ?_
              refine ovs [25, 26] [.pointer (some ⟨b5, 0, none⟩), .pointer (some ⟨b5, 3, none⟩)] hr ⟨rfl, rfl⟩ (by kernel_rfl) ?_; clear hr a; intro a hr
              refine op_val (wn rfl) rfl rfl hr (v := .int .i64 S49.head_stands) (rl rfl (by kernel_rfl) (by kernel_rfl) (h.cell 3 rfl)) ?_; clear hr a; intro a hr
              refine ov hr (.bool (decide (S49.head_stands > (0 : Int)))) (by kernel_rfl) ?_; clear hr a; intro a hr
              refine wpList_nil ?_
              refine then_normal ?_
              by_cases c57 : S49.head_stands > (0 : Int)
              ·
                replace H := ifT c57 H
                refine cond_tt hr (b := (decide (S49.head_stands > (0 : Int)))) (decide_eq_true c57) ?_
                refine wp_region_lit ?_
                refine ovs [29, 30] [.pointer (some ⟨b5, 0, none⟩), .pointer (some ⟨b5, 3, none⟩)] hr ⟨rfl, rfl⟩ (by kernel_rfl) ?_; clear hr a; intro a hr
                refine op_val (wn rfl) rfl rfl hr (v := .int .i64 S49.head_stands) (rl rfl (by kernel_rfl) (by kernel_rfl) (h.cell 3 rfl)) ?_; clear hr a; intro a hr
                refine ovs [32, 33, 34] [.int .i64 (wi (S49.head_stands + (1 : Int))), .pointer (some ⟨b5, 0, none⟩), .pointer (some ⟨b5, 3, none⟩)] hr ⟨rfl, rfl⟩ (by kernel_rfl) ?_; clear hr a; intro a hr
                refine op_store (wn rfl) rfl hr rfl (by kernel_rfl) (by kernel_rfl) (v := .int .i64 (wi (S49.head_stands + (1 : Int)))) rfl rfl (by kernel_rfl) h (i := 3) rfl ?_; clear h; intro w h
                refine wpList_nil ?_
                replace h : Fit z (sepL (pts b5 (.cells #[.int .i64 S49.head_t_Base, .int .i64 S49.head_t_Frames, .int .i64 S49.head_frame, .int .i64 (wi (S49.head_stands + (1 : Int))), .int .i64 S49.head_code, .int .i64 S49.head_v, .int .i64 S49.kind, .int .i64 S49.slot, .int .i64 S49.give] 50) :: ob103 B0 S50 caq52 ccq53 caq54 ccq55 :: ro2 caq52 ccq53 S50.cell :: ro96 caq54 ccq55 S50.log :: pts b6 (.cells #[.int .i64 0, .int .i64 0, .int .i64 0, .int .i64 0, .int .i64 0, .int .i64 0, .int .i64 0, .int .i64 0, .int .i64 0] 50) :: L)) _ := h
                refine then_normal ?_
                refine wp_seq ?_
                refine wp_region_lit ?_
                refine op_val (wn rfl) rfl rfl hr (v := .agg #[.int .i64 S49.head_t_Base, .int .i64 S49.head_t_Frames, .int .i64 S49.head_frame, .int .i64 (wi (S49.head_stands + (1 : Int))), .int .i64 S49.head_code, .int .i64 S49.head_v, .int .i64 S49.kind, .int .i64 S49.slot, .int .i64 S49.give]) (rlm (cs := [.int .i64 S49.head_t_Base, .int .i64 S49.head_t_Frames, .int .i64 S49.head_frame, .int .i64 (wi (S49.head_stands + (1 : Int))), .int .i64 S49.head_code, .int .i64 S49.head_v, .int .i64 S49.kind, .int .i64 S49.slot, .int .i64 S49.give]) rfl (by kernel_rfl) (by kernel_rfl) (by kernel_rfl) ⟨h.cell 0 rfl, h.cell 1 rfl, h.cell 2 rfl, h.cell 3 rfl, h.cell 4 rfl, h.cell 5 rfl, h.cell 6 rfl, h.cell 7 rfl, h.cell 8 rfl, trivial⟩) ?_; clear hr a; intro a hr
                replace h : Fit z (sepL (pts b6 (.cells #[.int .i64 0, .int .i64 0, .int .i64 0, .int .i64 0, .int .i64 0, .int .i64 0, .int .i64 0, .int .i64 0, .int .i64 0] 50) :: pts b5 (.cells #[.int .i64 S49.head_t_Base, .int .i64 S49.head_t_Frames, .int .i64 S49.head_frame, .int .i64 (wi (S49.head_stands + (1 : Int))), .int .i64 S49.head_code, .int .i64 S49.head_v, .int .i64 S49.kind, .int .i64 S49.slot, .int .i64 S49.give] 50) :: ob103 B0 S50 caq52 ccq53 caq54 ccq55 :: ro2 caq52 ccq53 S50.cell :: ro96 caq54 ccq55 S50.log :: L)) _ := h.sel 5 [4, 0, 1, 2, 3] (by kernel_rfl) (by kernel_rfl)
                refine op_stores (wn rfl) rfl hr rfl (by kernel_rfl) (by kernel_rfl) (vs := [.int .i64 S49.head_t_Base, .int .i64 S49.head_t_Frames, .int .i64 S49.head_frame, .int .i64 (wi (S49.head_stands + (1 : Int))), .int .i64 S49.head_code, .int .i64 S49.head_v, .int .i64 S49.kind, .int .i64 S49.slot, .int .i64 S49.give]) rfl rfl (by kernel_rfl) h (i := 0) (cs' := #[.int .i64 S49.head_t_Base, .int .i64 S49.head_t_Frames, .int .i64 S49.head_frame, .int .i64 (wi (S49.head_stands + (1 : Int))), .int .i64 S49.head_code, .int .i64 S49.head_v, .int .i64 S49.kind, .int .i64 S49.slot, .int .i64 S49.give]) rfl ?_; clear h; intro w h
                refine wpList_nil ?_
                replace h : Fit z (sepL (pts b6 (.cells #[.int .i64 S49.head_t_Base, .int .i64 S49.head_t_Frames, .int .i64 S49.head_frame, .int .i64 (wi (S49.head_stands + (1 : Int))), .int .i64 S49.head_code, .int .i64 S49.head_v, .int .i64 S49.kind, .int .i64 S49.slot, .int .i64 S49.give] 50) :: pts b5 (.cells #[.int .i64 S49.head_t_Base, .int .i64 S49.head_t_Frames, .int .i64 S49.head_frame, .int .i64 (wi (S49.head_stands + (1 : Int))), .int .i64 S49.head_code, .int .i64 S49.head_v, .int .i64 S49.kind, .int .i64 S49.slot, .int .i64 S49.give] 50) :: ob103 B0 S50 caq52 ccq53 caq54 ccq55 :: ro2 caq52 ccq53 S50.cell :: ro96 caq54 ccq55 S50.log :: L)) _ := h
                refine then_normal ?_
                refine wp_ret ?_
                refine end_retC (cs := [.int .i64 S49.head_t_Base, .int .i64 S49.head_t_Frames, .int .i64 S49.head_frame, .int .i64 (wi (S49.head_stands + (1 : Int))), .int .i64 S49.head_code, .int .i64 S49.head_v, .int .i64 S49.kind, .int .i64 S49.slot, .int .i64 S49.give]) rfl hr (by kernel_rfl) (by kernel_rfl) (by kernel_rfl) ⟨h.cell 0 rfl, h.cell 1 rfl, h.cell 2 rfl, h.cell 3 rfl, h.cell 4 rfl, h.cell 5 rfl, h.cell 6 rfl, h.cell 7 rfl, h.cell 8 rfl, trivial⟩ ?_
                replace h : Fit z (sepL (ob103 B0 S50 caq52 ccq53 caq54 ccq55 :: ro2 caq52 ccq53 S50.cell :: ro96 caq54 ccq55 S50.log :: L)) _ := h.sel 5 [2, 3, 4] (by kernel_rfl) (by kernel_rfl)
                replace H := ej2 H; obtain ⟨rfl, rfl⟩ := H
                exact ⟨caq52, ccq53, caq54, ccq55, rfl, h⟩
              ·
                replace H := ifF c57 H
                refine cond_ff hr (b := (decide (S49.head_stands > (0 : Int)))) (decide_eq_false c57) ?_
                refine wp_skip ?_
                refine then_normal ?_
                refine wp_seq ?_
                refine wp_region_lit ?_
                refine op_val (wn rfl) rfl rfl hr (v := .agg #[.int .i64 S49.head_t_Base, .int .i64 S49.head_t_Frames, .int .i64 S49.head_frame, .int .i64 S49.head_stands, .int .i64 S49.head_code, .int .i64 S49.head_v, .int .i64 S49.kind, .int .i64 S49.slot, .int .i64 S49.give]) (rlm (cs := [.int .i64 S49.head_t_Base, .int .i64 S49.head_t_Frames, .int .i64 S49.head_frame, .int .i64 S49.head_stands, .int .i64 S49.head_code, .int .i64 S49.head_v, .int .i64 S49.kind, .int .i64 S49.slot, .int .i64 S49.give]) rfl (by kernel_rfl) (by kernel_rfl) (by kernel_rfl) ⟨h.cell 0 rfl, h.cell 1 rfl, h.cell 2 rfl, h.cell 3 rfl, h.cell 4 rfl, h.cell 5 rfl, h.cell 6 rfl, h.cell 7 rfl, h.cell 8 rfl, trivial⟩) ?_; clear hr a; intro a hr
                replace h : Fit z (sepL (pts b6 (.cells #[.int .i64 0, .int .i64 0, .int .i64 0, .int .i64 0, .int .i64 0, .int .i64 0, .int .i64 0, .int .i64 0, .int .i64 0] 50) :: ob50 b5 S49 :: ob103 B0 S50 caq52 ccq53 caq54 ccq55 :: ro2 caq52 ccq53 S50.cell :: ro96 caq54 ccq55 S50.log :: L)) _ := h.sel 5 [4, 0, 1, 2, 3] (by kernel_rfl) (by kernel_rfl)
                refine op_stores (wn rfl) rfl hr rfl (by kernel_rfl) (by kernel_rfl) (vs := [.int .i64 S49.head_t_Base, .int .i64 S49.head_t_Frames, .int .i64 S49.head_frame, .int .i64 S49.head_stands, .int .i64 S49.head_code, .int .i64 S49.head_v, .int .i64 S49.kind, .int .i64 S49.slot, .int .i64 S49.give]) rfl rfl (by kernel_rfl) h (i := 0) (cs' := #[.int .i64 S49.head_t_Base, .int .i64 S49.head_t_Frames, .int .i64 S49.head_frame, .int .i64 S49.head_stands, .int .i64 S49.head_code, .int .i64 S49.head_v, .int .i64 S49.kind, .int .i64 S49.slot, .int .i64 S49.give]) rfl ?_; clear h; intro w h
                refine wpList_nil ?_
                replace h : Fit z (sepL (ob50 b6 S49 :: ob50 b5 S49 :: ob103 B0 S50 caq52 ccq53 caq54 ccq55 :: ro2 caq52 ccq53 S50.cell :: ro96 caq54 ccq55 S50.log :: L)) _ := h
                refine then_normal ?_
                refine wp_ret ?_
                refine end_retC (cs := [.int .i64 S49.head_t_Base, .int .i64 S49.head_t_Frames, .int .i64 S49.head_frame, .int .i64 S49.head_stands, .int .i64 S49.head_code, .int .i64 S49.head_v, .int .i64 S49.kind, .int .i64 S49.slot, .int .i64 S49.give]) rfl hr (by kernel_rfl) (by kernel_rfl) (by kernel_rfl) ⟨h.cell 0 rfl, h.cell 1 rfl, h.cell 2 rfl, h.cell 3 rfl, h.cell 4 rfl, h.cell 5 rfl, h.cell 6 rfl, h.cell 7 rfl, h.cell 8 rfl, trivial⟩ ?_
                replace h : Fit z (sepL (ob103 B0 S50 caq52 ccq53 caq54 ccq55 :: ro2 caq52 ccq53 S50.cell :: ro96 caq54 ccq55 S50.log :: L)) _ := h.sel 5 [2, 3, 4] (by kernel_rfl) (by kernel_rfl)
                replace H := ej2 H; obtain ⟨rfl, rfl⟩ := H
                exact ⟨caq52, ccq53, caq54, ccq55, rfl, h⟩
            ·
              replace H := ifF c56 H
              refine cond_tt hr (b := (r48 != (0 : Int))) (bne_iff_ne.mpr c56) ?_
              refine wp_region_lit ?_
              replace H := bd1 H; obtain ⟨S58, e59, H⟩ := H
              refine ov hr (.pointer (some ⟨b5, 0, none⟩)) (by kernel_rfl) ?_; clear hr a; intro a hr
              have hc := frames_head_end_ok (H := e59) (h := h)
              refine op_call (wn rfl) rfl rfl hr (f := 56) (args := #[.pointer (some ⟨b5, 0, none⟩), .int .i64 1, .int .i64 0]) (by kernel_rfl) hc ?_; clear hc h
              rintro _ w ⟨rfl, h⟩; refine ⟨_, rfl, ?_⟩
              clear hr a; intro a hr
              refine wpList_nil ?_
              refine then_normal ?_
              refine wp_seq ?_
              refine wp_region_lit ?_
              refine op_val (wn rfl) rfl rfl hr (v := .agg #[.int .i64 S58.head_t_Base, .int .i64 S58.head_t_Frames, .int .i64 S58.head_frame, .int .i64 S58.head_stands, .int .i64 S58.head_code, .int .i64 S58.head_v, .int .i64 S58.kind, .int .i64 S58.slot, .int .i64 S58.give]) (rlm (cs := [.int .i64 S58.head_t_Base, .int .i64 S58.head_t_Frames, .int .i64 S58.head_frame, .int .i64 S58.head_stands, .int .i64 S58.head_code, .int .i64 S58.head_v, .int .i64 S58.kind, .int .i64 S58.slot, .int .i64 S58.give]) rfl (by kernel_rfl) (by kernel_rfl) (by kernel_rfl) ⟨h.cell 0 rfl, h.cell 1 rfl, h.cell 2 rfl, h.cell 3 rfl, h.cell 4 rfl, h.cell 5 rfl, h.cell 6 rfl, h.cell 7 rfl, h.cell 8 rfl, trivial⟩) ?_; clear hr a; intro a hr
              replace h : Fit z (sepL (pts b6 (.cells #[.int .i64 0, .int .i64 0, .int .i64 0, .int .i64 0, .int .i64 0, .int .i64 0, .int .i64 0, .int .i64 0, .int .i64 0] 50) :: ob50 b5 S58 :: ob103 B0 S50 caq52 ccq53 caq54 ccq55 :: ro2 caq52 ccq53 S50.cell :: ro96 caq54 ccq55 S50.log :: L)) _ := h.sel 5 [4, 0, 1, 2, 3] (by kernel_rfl) (by kernel_rfl)
              refine op_stores (wn rfl) rfl hr rfl (by kernel_rfl) (by kernel_rfl) (vs := [.int .i64 S58.head_t_Base, .int .i64 S58.head_t_Frames, .int .i64 S58.head_frame, .int .i64 S58.head_stands, .int .i64 S58.head_code, .int .i64 S58.head_v, .int .i64 S58.kind, .int .i64 S58.slot, .int .i64 S58.give]) rfl rfl (by kernel_rfl) h (i := 0) (cs' := #[.int .i64 S58.head_t_Base, .int .i64 S58.head_t_Frames, .int .i64 S58.head_frame, .int .i64 S58.head_stands, .int .i64 S58.head_code, .int .i64 S58.head_v, .int .i64 S58.kind, .int .i64 S58.slot, .int .i64 S58.give]) rfl ?_; clear h; intro w h
              refine wpList_nil ?_
              replace h : Fit z (sepL (ob50 b6 S58 :: ob50 b5 S58 :: ob103 B0 S50 caq52 ccq53 caq54 ccq55 :: ro2 caq52 ccq53 S50.cell :: ro96 caq54 ccq55 S50.log :: L)) _ := h
              refine then_normal ?_
              refine wp_ret ?_
              refine end_retC (cs := [.int .i64 S58.head_t_Base, .int .i64 S58.head_t_Frames, .int .i64 S58.head_frame, .int .i64 S58.head_stands, .int .i64 S58.head_code, .int .i64 S58.head_v, .int .i64 S58.kind, .int .i64 S58.slot, .int .i64 S58.give]) rfl hr (by kernel_rfl) (by kernel_rfl) (by kernel_rfl) ⟨h.cell 0 rfl, h.cell 1 rfl, h.cell 2 rfl, h.cell 3 rfl, h.cell 4 rfl, h.cell 5 rfl, h.cell 6 rfl, h.cell 7 rfl, h.cell 8 rfl, trivial⟩ ?_
              replace h : Fit z (sepL (ob103 B0 S50 caq52 ccq53 caq54 ccq55 :: ro2 caq52 ccq53 S50.cell :: ro96 caq54 ccq55 S50.log :: L)) _ := h.sel 5 [2, 3, 4] (by kernel_rfl) (by kernel_rfl)
              replace H := ej2 H; obtain ⟨rfl, rfl⟩ := H
              exact ⟨caq52, ccq53, caq54, ccq55, rfl, h⟩
          ·
            replace H := ifF c47 H
            refine cond_ff hr (b := (p1.kind == (3 : Int))) (beq_eq_false_iff_ne.mpr c47) ?_
            refine wp_seq ?_
            refine wp_region_lit ?_
            refine ovs [13, 12] [.bool (p1.kind == (4 : Int)), .bool (p1.kind == (4 : Int))] hr ⟨rfl, rfl⟩ (by kernel_rfl) ?_; clear hr a; intro a hr
            refine wpList_nil ?_
            refine then_normal ?_
            by_cases c60 : p1.kind = (4 : Int)
            ·
              replace H := ifT c60 H
              refine cond_tt hr (b := (p1.kind == (4 : Int))) (beq_iff_eq.mpr c60) ?_
              refine wp_seq ?_
              refine wp_region_lit ?_
              refine ov hr (.func (.func 85) #[] #[]) (by kernel_rfl) ?_; clear hr a; intro a hr
              refine wpList_nil ?_
              refine then_normal ?_
              refine wp_ret ?_
              refine blk_ret ?_
              refine then_ret ?_
              refine end_ret1 (v := .func (.func 85) #[] #[]) rfl hr (by kernel_rfl) ?_
              refine ⟨_, rfl, ?_⟩; clear hr a; intro a hr
              replace H := bd3 H; obtain ⟨r61, S62, S63, e64, H⟩ := H
              refine ov hr (.iface 26 (.pointer (some ⟨B0, 0, none⟩))) (by kernel_rfl) ?_; clear hr a; intro a hr
              replace h : Fit z (sepL (ob50 b5 p1 :: ob103 B0 p0 ca1 cc2 ca3 cc4 :: ro2 ca1 cc2 p0.cell :: ro96 ca3 cc4 p0.log :: pts b6 (.cells #[.int .i64 0, .int .i64 0, .int .i64 0, .int .i64 0, .int .i64 0, .int .i64 0, .int .i64 0, .int .i64 0, .int .i64 0] 50) :: L)) _ := h.sel 5 [1, 2, 3, 4, 0] (by kernel_rfl) (by kernel_rfl)
              have hc := frames_Op_start_iface_ok (H := e64) (h := h)
              refine op_call (wn rfl) rfl rfl hr (f := 85) (args := #[.pointer (some ⟨b5, 0, none⟩), .iface 26 (.pointer (some ⟨B0, 0, none⟩))]) (by kernel_rfl) hc ?_; clear hc h
              rintro _ w ⟨caq65, ccq66, caq67, ccq68, rfl, h⟩; refine ⟨_, rfl, ?_⟩
              clear hr a; intro a hr
              refine ov hr (.int .i64 r61) (by kernel_rfl) ?_; clear hr a; intro a hr
              refine wpList_nil ?_
              refine then_normal ?_
              refine wp_seq ?_
              refine wp_region_lit ?_
              refine ovs [21, 22] [.int .i64 r61, .bool (r61 != (0 : Int))] hr ⟨rfl, rfl⟩ (by kernel_rfl) ?_; clear hr a; intro a hr
              refine wpList_nil ?_
              refine then_normal ?_
              by_cases c69 : r61 = (0 : Int)
              ·
                replace H := ifT c69 H
                refine cond_ff hr (b := (r61 != (0 : Int))) (bne_eq_false_iff_eq.mpr c69) ?_
                refine wp_seq ?_
                refine wp_region_lit ?_
                refine ovs [25, 26] [.pointer (some ⟨b5, 0, none⟩), .pointer (some ⟨b5, 3, none⟩)] hr ⟨rfl, rfl⟩ (by kernel_rfl) ?_; clear hr a; intro a hr
                refine op_val (wn rfl) rfl rfl hr (v := .int .i64 S62.head_stands) (rl rfl (by kernel_rfl) (by kernel_rfl) (h.cell 3 rfl)) ?_; clear hr a; intro a hr
                refine ov hr (.bool (decide (S62.head_stands > (0 : Int)))) (by kernel_rfl) ?_; clear hr a; intro a hr
                refine wpList_nil ?_
                refine then_normal ?_
                by_cases c70 : S62.head_stands > (0 : Int)
                ·
                  replace H := ifT c70 H
                  refine cond_tt hr (b := (decide (S62.head_stands > (0 : Int)))) (decide_eq_true c70) ?_
                  refine wp_region_lit ?_
                  refine ovs [29, 30] [.pointer (some ⟨b5, 0, none⟩), .pointer (some ⟨b5, 3, none⟩)] hr ⟨rfl, rfl⟩ (by kernel_rfl) ?_; clear hr a; intro a hr
                  refine op_val (wn rfl) rfl rfl hr (v := .int .i64 S62.head_stands) (rl rfl (by kernel_rfl) (by kernel_rfl) (h.cell 3 rfl)) ?_; clear hr a; intro a hr
                  refine ovs [32, 33, 34] [.int .i64 (wi (S62.head_stands + (1 : Int))), .pointer (some ⟨b5, 0, none⟩), .pointer (some ⟨b5, 3, none⟩)] hr ⟨rfl, rfl⟩ (by kernel_rfl) ?_; clear hr a; intro a hr
                  refine op_store (wn rfl) rfl hr rfl (by kernel_rfl) (by kernel_rfl) (v := .int .i64 (wi (S62.head_stands + (1 : Int)))) rfl rfl (by kernel_rfl) h (i := 3) rfl ?_; clear h; intro w h
                  refine wpList_nil ?_
                  replace h : Fit z (sepL (pts b5 (.cells #[.int .i64 S62.head_t_Base, .int .i64 S62.head_t_Frames, .int .i64 S62.head_frame, .int .i64 (wi (S62.head_stands + (1 : Int))), .int .i64 S62.head_code, .int .i64 S62.head_v, .int .i64 S62.kind, .int .i64 S62.slot, .int .i64 S62.give] 50) :: ob103 B0 S63 caq65 ccq66 caq67 ccq68 :: ro2 caq65 ccq66 S63.cell :: ro96 caq67 ccq68 S63.log :: pts b6 (.cells #[.int .i64 0, .int .i64 0, .int .i64 0, .int .i64 0, .int .i64 0, .int .i64 0, .int .i64 0, .int .i64 0, .int .i64 0] 50) :: L)) _ := h
                  refine then_normal ?_
                  refine wp_seq ?_
                  refine wp_region_lit ?_
                  refine op_val (wn rfl) rfl rfl hr (v := .agg #[.int .i64 S62.head_t_Base, .int .i64 S62.head_t_Frames, .int .i64 S62.head_frame, .int .i64 (wi (S62.head_stands + (1 : Int))), .int .i64 S62.head_code, .int .i64 S62.head_v, .int .i64 S62.kind, .int .i64 S62.slot, .int .i64 S62.give]) (rlm (cs := [.int .i64 S62.head_t_Base, .int .i64 S62.head_t_Frames, .int .i64 S62.head_frame, .int .i64 (wi (S62.head_stands + (1 : Int))), .int .i64 S62.head_code, .int .i64 S62.head_v, .int .i64 S62.kind, .int .i64 S62.slot, .int .i64 S62.give]) rfl (by kernel_rfl) (by kernel_rfl) (by kernel_rfl) ⟨h.cell 0 rfl, h.cell 1 rfl, h.cell 2 rfl, h.cell 3 rfl, h.cell 4 rfl, h.cell 5 rfl, h.cell 6 rfl, h.cell 7 rfl, h.cell 8 rfl, trivial⟩) ?_; clear hr a; intro a hr
                  replace h : Fit z (sepL (pts b6 (.cells #[.int .i64 0, .int .i64 0, .int .i64 0, .int .i64 0, .int .i64 0, .int .i64 0, .int .i64 0, .int .i64 0, .int .i64 0] 50) :: pts b5 (.cells #[.int .i64 S62.head_t_Base, .int .i64 S62.head_t_Frames, .int .i64 S62.head_frame, .int .i64 (wi (S62.head_stands + (1 : Int))), .int .i64 S62.head_code, .int .i64 S62.head_v, .int .i64 S62.kind, .int .i64 S62.slot, .int .i64 S62.give] 50) :: ob103 B0 S63 caq65 ccq66 caq67 ccq68 :: ro2 caq65 ccq66 S63.cell :: ro96 caq67 ccq68 S63.log :: L)) _ := h.sel 5 [4, 0, 1, 2, 3] (by kernel_rfl) (by kernel_rfl)
                  refine op_stores (wn rfl) rfl hr rfl (by kernel_rfl) (by kernel_rfl) (vs := [.int .i64 S62.head_t_Base, .int .i64 S62.head_t_Frames, .int .i64 S62.head_frame, .int .i64 (wi (S62.head_stands + (1 : Int))), .int .i64 S62.head_code, .int .i64 S62.head_v, .int .i64 S62.kind, .int .i64 S62.slot, .int .i64 S62.give]) rfl rfl (by kernel_rfl) h (i := 0) (cs' := #[.int .i64 S62.head_t_Base, .int .i64 S62.head_t_Frames, .int .i64 S62.head_frame, .int .i64 (wi (S62.head_stands + (1 : Int))), .int .i64 S62.head_code, .int .i64 S62.head_v, .int .i64 S62.kind, .int .i64 S62.slot, .int .i64 S62.give]) rfl ?_; clear h; intro w h
                  refine wpList_nil ?_
                  replace h : Fit z (sepL (pts b6 (.cells #[.int .i64 S62.head_t_Base, .int .i64 S62.head_t_Frames, .int .i64 S62.head_frame, .int .i64 (wi (S62.head_stands + (1 : Int))), .int .i64 S62.head_code, .int .i64 S62.head_v, .int .i64 S62.kind, .int .i64 S62.slot, .int .i64 S62.give] 50) :: pts b5 (.cells #[.int .i64 S62.head_t_Base, .int .i64 S62.head_t_Frames, .int .i64 S62.head_frame, .int .i64 (wi (S62.head_stands + (1 : Int))), .int .i64 S62.head_code, .int .i64 S62.head_v, .int .i64 S62.kind, .int .i64 S62.slot, .int .i64 S62.give] 50) :: ob103 B0 S63 caq65 ccq66 caq67 ccq68 :: ro2 caq65 ccq66 S63.cell :: ro96 caq67 ccq68 S63.log :: L)) _ := h
                  refine then_normal ?_
                  refine wp_ret ?_
                  refine end_retC (cs := [.int .i64 S62.head_t_Base, .int .i64 S62.head_t_Frames, .int .i64 S62.head_frame, .int .i64 (wi (S62.head_stands + (1 : Int))), .int .i64 S62.head_code, .int .i64 S62.head_v, .int .i64 S62.kind, .int .i64 S62.slot, .int .i64 S62.give]) rfl hr (by kernel_rfl) (by kernel_rfl) (by kernel_rfl) ⟨h.cell 0 rfl, h.cell 1 rfl, h.cell 2 rfl, h.cell 3 rfl, h.cell 4 rfl, h.cell 5 rfl, h.cell 6 rfl, h.cell 7 rfl, h.cell 8 rfl, trivial⟩ ?_
                  replace h : Fit z (sepL (ob103 B0 S63 caq65 ccq66 caq67 ccq68 :: ro2 caq65 ccq66 S63.cell :: ro96 caq67 ccq68 S63.log :: L)) _ := h.sel 5 [2, 3, 4] (by kernel_rfl) (by kernel_rfl)
                  replace H := ej2 H; obtain ⟨rfl, rfl⟩ := H
                  exact ⟨caq65, ccq66, caq67, ccq68, rfl, h⟩
                ·
                  replace H := ifF c70 H
                  refine cond_ff hr (b := (decide (S62.head_stands > (0 : Int)))) (decide_eq_false c70) ?_
                  refine wp_skip ?_
                  refine then_normal ?_
                  refine wp_seq ?_
                  refine wp_region_lit ?_
                  refine op_val (wn rfl) rfl rfl hr (v := .agg #[.int .i64 S62.head_t_Base, .int .i64 S62.head_t_Frames, .int .i64 S62.head_frame, .int .i64 S62.head_stands, .int .i64 S62.head_code, .int .i64 S62.head_v, .int .i64 S62.kind, .int .i64 S62.slot, .int .i64 S62.give]) (rlm (cs := [.int .i64 S62.head_t_Base, .int .i64 S62.head_t_Frames, .int .i64 S62.head_frame, .int .i64 S62.head_stands, .int .i64 S62.head_code, .int .i64 S62.head_v, .int .i64 S62.kind, .int .i64 S62.slot, .int .i64 S62.give]) rfl (by kernel_rfl) (by kernel_rfl) (by kernel_rfl) ⟨h.cell 0 rfl, h.cell 1 rfl, h.cell 2 rfl, h.cell 3 rfl, h.cell 4 rfl, h.cell 5 rfl, h.cell 6 rfl, h.cell 7 rfl, h.cell 8 rfl, trivial⟩) ?_; clear hr a; intro a hr
                  replace h : Fit z (sepL (pts b6 (.cells #[.int .i64 0, .int .i64 0, .int .i64 0, .int .i64 0, .int .i64 0, .int .i64 0, .int .i64 0, .int .i64 0, .int .i64 0] 50) :: ob50 b5 S62 :: ob103 B0 S63 caq65 ccq66 caq67 ccq68 :: ro2 caq65 ccq66 S63.cell :: ro96 caq67 ccq68 S63.log :: L)) _ := h.sel 5 [4, 0, 1, 2, 3] (by kernel_rfl) (by kernel_rfl)
                  refine op_stores (wn rfl) rfl hr rfl (by kernel_rfl) (by kernel_rfl) (vs := [.int .i64 S62.head_t_Base, .int .i64 S62.head_t_Frames, .int .i64 S62.head_frame, .int .i64 S62.head_stands, .int .i64 S62.head_code, .int .i64 S62.head_v, .int .i64 S62.kind, .int .i64 S62.slot, .int .i64 S62.give]) rfl rfl (by kernel_rfl) h (i := 0) (cs' := #[.int .i64 S62.head_t_Base, .int .i64 S62.head_t_Frames, .int .i64 S62.head_frame, .int .i64 S62.head_stands, .int .i64 S62.head_code, .int .i64 S62.head_v, .int .i64 S62.kind, .int .i64 S62.slot, .int .i64 S62.give]) rfl ?_; clear h; intro w h
                  refine wpList_nil ?_
                  replace h : Fit z (sepL (ob50 b6 S62 :: ob50 b5 S62 :: ob103 B0 S63 caq65 ccq66 caq67 ccq68 :: ro2 caq65 ccq66 S63.cell :: ro96 caq67 ccq68 S63.log :: L)) _ := h
                  refine then_normal ?_
                  refine wp_ret ?_
                  refine end_retC (cs := [.int .i64 S62.head_t_Base, .int .i64 S62.head_t_Frames, .int .i64 S62.head_frame, .int .i64 S62.head_stands, .int .i64 S62.head_code, .int .i64 S62.head_v, .int .i64 S62.kind, .int .i64 S62.slot, .int .i64 S62.give]) rfl hr (by kernel_rfl) (by kernel_rfl) (by kernel_rfl) ⟨h.cell 0 rfl, h.cell 1 rfl, h.cell 2 rfl, h.cell 3 rfl, h.cell 4 rfl, h.cell 5 rfl, h.cell 6 rfl, h.cell 7 rfl, h.cell 8 rfl, trivial⟩ ?_
                  replace h : Fit z (sepL (ob103 B0 S63 caq65 ccq66 caq67 ccq68 :: ro2 caq65 ccq66 S63.cell :: ro96 caq67 ccq68 S63.log :: L)) _ := h.sel 5 [2, 3, 4] (by kernel_rfl) (by kernel_rfl)
                  replace H := ej2 H; obtain ⟨rfl, rfl⟩ := H
                  exact ⟨caq65, ccq66, caq67, ccq68, rfl, h⟩
              ·
                replace H := ifF c69 H
                refine cond_tt hr (b := (r61 != (0 : Int))) (bne_iff_ne.mpr c69) ?_
                refine wp_region_lit ?_
                replace H := bd1 H; obtain ⟨S71, e72, H⟩ := H
                refine ov hr (.pointer (some ⟨b5, 0, none⟩)) (by kernel_rfl) ?_; clear hr a; intro a hr
                have hc := frames_head_end_ok (H := e72) (h := h)
                refine op_call (wn rfl) rfl rfl hr (f := 56) (args := #[.pointer (some ⟨b5, 0, none⟩), .int .i64 1, .int .i64 0]) (by kernel_rfl) hc ?_; clear hc h
                rintro _ w ⟨rfl, h⟩; refine ⟨_, rfl, ?_⟩
                clear hr a; intro a hr
                refine wpList_nil ?_
                refine then_normal ?_
                refine wp_seq ?_
                refine wp_region_lit ?_
                refine op_val (wn rfl) rfl rfl hr (v := .agg #[.int .i64 S71.head_t_Base, .int .i64 S71.head_t_Frames, .int .i64 S71.head_frame, .int .i64 S71.head_stands, .int .i64 S71.head_code, .int .i64 S71.head_v, .int .i64 S71.kind, .int .i64 S71.slot, .int .i64 S71.give]) (rlm (cs := [.int .i64 S71.head_t_Base, .int .i64 S71.head_t_Frames, .int .i64 S71.head_frame, .int .i64 S71.head_stands, .int .i64 S71.head_code, .int .i64 S71.head_v, .int .i64 S71.kind, .int .i64 S71.slot, .int .i64 S71.give]) rfl (by kernel_rfl) (by kernel_rfl) (by kernel_rfl) ⟨h.cell 0 rfl, h.cell 1 rfl, h.cell 2 rfl, h.cell 3 rfl, h.cell 4 rfl, h.cell 5 rfl, h.cell 6 rfl, h.cell 7 rfl, h.cell 8 rfl, trivial⟩) ?_; clear hr a; intro a hr
                replace h : Fit z (sepL (pts b6 (.cells #[.int .i64 0, .int .i64 0, .int .i64 0, .int .i64 0, .int .i64 0, .int .i64 0, .int .i64 0, .int .i64 0, .int .i64 0] 50) :: ob50 b5 S71 :: ob103 B0 S63 caq65 ccq66 caq67 ccq68 :: ro2 caq65 ccq66 S63.cell :: ro96 caq67 ccq68 S63.log :: L)) _ := h.sel 5 [4, 0, 1, 2, 3] (by kernel_rfl) (by kernel_rfl)
                refine op_stores (wn rfl) rfl hr rfl (by kernel_rfl) (by kernel_rfl) (vs := [.int .i64 S71.head_t_Base, .int .i64 S71.head_t_Frames, .int .i64 S71.head_frame, .int .i64 S71.head_stands, .int .i64 S71.head_code, .int .i64 S71.head_v, .int .i64 S71.kind, .int .i64 S71.slot, .int .i64 S71.give]) rfl rfl (by kernel_rfl) h (i := 0) (cs' := #[.int .i64 S71.head_t_Base, .int .i64 S71.head_t_Frames, .int .i64 S71.head_frame, .int .i64 S71.head_stands, .int .i64 S71.head_code, .int .i64 S71.head_v, .int .i64 S71.kind, .int .i64 S71.slot, .int .i64 S71.give]) rfl ?_; clear h; intro w h
                refine wpList_nil ?_
                replace h : Fit z (sepL (ob50 b6 S71 :: ob50 b5 S71 :: ob103 B0 S63 caq65 ccq66 caq67 ccq68 :: ro2 caq65 ccq66 S63.cell :: ro96 caq67 ccq68 S63.log :: L)) _ := h
                refine then_normal ?_
                refine wp_ret ?_
                refine end_retC (cs := [.int .i64 S71.head_t_Base, .int .i64 S71.head_t_Frames, .int .i64 S71.head_frame, .int .i64 S71.head_stands, .int .i64 S71.head_code, .int .i64 S71.head_v, .int .i64 S71.kind, .int .i64 S71.slot, .int .i64 S71.give]) rfl hr (by kernel_rfl) (by kernel_rfl) (by kernel_rfl) ⟨h.cell 0 rfl, h.cell 1 rfl, h.cell 2 rfl, h.cell 3 rfl, h.cell 4 rfl, h.cell 5 rfl, h.cell 6 rfl, h.cell 7 rfl, h.cell 8 rfl, trivial⟩ ?_
                replace h : Fit z (sepL (ob103 B0 S63 caq65 ccq66 caq67 ccq68 :: ro2 caq65 ccq66 S63.cell :: ro96 caq67 ccq68 S63.log :: L)) _ := h.sel 5 [2, 3, 4] (by kernel_rfl) (by kernel_rfl)
                replace H := ej2 H; obtain ⟨rfl, rfl⟩ := H
                exact ⟨caq65, ccq66, caq67, ccq68, rfl, h⟩
            ·
              replace H := ifF c60 H
              refine cond_ff hr (b := (p1.kind == (4 : Int))) (beq_eq_false_iff_ne.mpr c60) ?_
              refine wp_skip ?_
              refine blk_normal ?_
              refine then_normal ?_
              refine wp_seq ?_
              refine wp_region_lit ?_
              refine ov hr (.func (.func 86) #[] #[]) (by kernel_rfl) ?_; clear hr a; intro a hr
              refine wpList_nil ?_
              refine then_normal ?_
              refine wp_ret ?_
              refine end_ret1 (v := .func (.func 86) #[] #[]) rfl hr (by kernel_rfl) ?_
              refine ⟨_, rfl, ?_⟩; clear hr a; intro a hr
              replace H := bd3 H; obtain ⟨r73, S74, S75, e76, H⟩ := H
              refine ov hr (.iface 26 (.pointer (some ⟨B0, 0, none⟩))) (by kernel_rfl) ?_; clear hr a; intro a hr
              replace h : Fit z (sepL (ob50 b5 p1 :: ob103 B0 p0 ca1 cc2 ca3 cc4 :: ro2 ca1 cc2 p0.cell :: ro96 ca3 cc4 p0.log :: pts b6 (.cells #[.int .i64 0, .int .i64 0, .int .i64 0, .int .i64 0, .int .i64 0, .int .i64 0, .int .i64 0, .int .i64 0, .int .i64 0] 50) :: L)) _ := h.sel 5 [1, 2, 3, 4, 0] (by kernel_rfl) (by kernel_rfl)
              have hc := frames_Op_fetch_iface_ok (H := e76) (h := h)
              refine op_call (wn rfl) rfl rfl hr (f := 86) (args := #[.pointer (some ⟨b5, 0, none⟩), .iface 26 (.pointer (some ⟨B0, 0, none⟩))]) (by kernel_rfl) hc ?_; clear hc h
              rintro _ w ⟨caq77, ccq78, caq79, ccq80, rfl, h⟩; refine ⟨_, rfl, ?_⟩
              clear hr a; intro a hr
              refine ov hr (.int .i64 r73) (by kernel_rfl) ?_; clear hr a; intro a hr
              refine wpList_nil ?_
              refine then_normal ?_
              refine wp_seq ?_
              refine wp_region_lit ?_
              refine ovs [21, 22] [.int .i64 r73, .bool (r73 != (0 : Int))] hr ⟨rfl, rfl⟩ (by kernel_rfl) ?_; clear hr a; intro a hr
              refine wpList_nil ?_
              refine then_normal ?_
              by_cases c81 : r73 = (0 : Int)
              ·
                replace H := ifT c81 H
                refine cond_ff hr (b := (r73 != (0 : Int))) (bne_eq_false_iff_eq.mpr c81) ?_
                refine wp_seq ?_
                refine wp_region_lit ?_
                refine ovs [25, 26] [.pointer (some ⟨b5, 0, none⟩), .pointer (some ⟨b5, 3, none⟩)] hr ⟨rfl, rfl⟩ (by kernel_rfl) ?_; clear hr a; intro a hr
                refine op_val (wn rfl) rfl rfl hr (v := .int .i64 S74.head_stands) (rl rfl (by kernel_rfl) (by kernel_rfl) (h.cell 3 rfl)) ?_; clear hr a; intro a hr
                refine ov hr (.bool (decide (S74.head_stands > (0 : Int)))) (by kernel_rfl) ?_; clear hr a; intro a hr
                refine wpList_nil ?_
                refine then_normal ?_
                by_cases c82 : S74.head_stands > (0 : Int)
                ·
                  replace H := ifT c82 H
                  refine cond_tt hr (b := (decide (S74.head_stands > (0 : Int)))) (decide_eq_true c82) ?_
                  refine wp_region_lit ?_
                  refine ovs [29, 30] [.pointer (some ⟨b5, 0, none⟩), .pointer (some ⟨b5, 3, none⟩)] hr ⟨rfl, rfl⟩ (by kernel_rfl) ?_; clear hr a; intro a hr
                  refine op_val (wn rfl) rfl rfl hr (v := .int .i64 S74.head_stands) (rl rfl (by kernel_rfl) (by kernel_rfl) (h.cell 3 rfl)) ?_; clear hr a; intro a hr
                  refine ovs [32, 33, 34] [.int .i64 (wi (S74.head_stands + (1 : Int))), .pointer (some ⟨b5, 0, none⟩), .pointer (some ⟨b5, 3, none⟩)] hr ⟨rfl, rfl⟩ (by kernel_rfl) ?_; clear hr a; intro a hr
                  refine op_store (wn rfl) rfl hr rfl (by kernel_rfl) (by kernel_rfl) (v := .int .i64 (wi (S74.head_stands + (1 : Int)))) rfl rfl (by kernel_rfl) h (i := 3) rfl ?_; clear h; intro w h
                  refine wpList_nil ?_
                  replace h : Fit z (sepL (pts b5 (.cells #[.int .i64 S74.head_t_Base, .int .i64 S74.head_t_Frames, .int .i64 S74.head_frame, .int .i64 (wi (S74.head_stands + (1 : Int))), .int .i64 S74.head_code, .int .i64 S74.head_v, .int .i64 S74.kind, .int .i64 S74.slot, .int .i64 S74.give] 50) :: ob103 B0 S75 caq77 ccq78 caq79 ccq80 :: ro2 caq77 ccq78 S75.cell :: ro96 caq79 ccq80 S75.log :: pts b6 (.cells #[.int .i64 0, .int .i64 0, .int .i64 0, .int .i64 0, .int .i64 0, .int .i64 0, .int .i64 0, .int .i64 0, .int .i64 0] 50) :: L)) _ := h
                  refine then_normal ?_
                  refine wp_seq ?_
                  refine wp_region_lit ?_
                  refine op_val (wn rfl) rfl rfl hr (v := .agg #[.int .i64 S74.head_t_Base, .int .i64 S74.head_t_Frames, .int .i64 S74.head_frame, .int .i64 (wi (S74.head_stands + (1 : Int))), .int .i64 S74.head_code, .int .i64 S74.head_v, .int .i64 S74.kind, .int .i64 S74.slot, .int .i64 S74.give]) (rlm (cs := [.int .i64 S74.head_t_Base, .int .i64 S74.head_t_Frames, .int .i64 S74.head_frame, .int .i64 (wi (S74.head_stands + (1 : Int))), .int .i64 S74.head_code, .int .i64 S74.head_v, .int .i64 S74.kind, .int .i64 S74.slot, .int .i64 S74.give]) rfl (by kernel_rfl) (by kernel_rfl) (by kernel_rfl) ⟨h.cell 0 rfl, h.cell 1 rfl, h.cell 2 rfl, h.cell 3 rfl, h.cell 4 rfl, h.cell 5 rfl, h.cell 6 rfl, h.cell 7 rfl, h.cell 8 rfl, trivial⟩) ?_; clear hr a; intro a hr
                  replace h : Fit z (sepL (pts b6 (.cells #[.int .i64 0, .int .i64 0, .int .i64 0, .int .i64 0, .int .i64 0, .int .i64 0, .int .i64 0, .int .i64 0, .int .i64 0] 50) :: pts b5 (.cells #[.int .i64 S74.head_t_Base, .int .i64 S74.head_t_Frames, .int .i64 S74.head_frame, .int .i64 (wi (S74.head_stands + (1 : Int))), .int .i64 S74.head_code, .int .i64 S74.head_v, .int .i64 S74.kind, .int .i64 S74.slot, .int .i64 S74.give] 50) :: ob103 B0 S75 caq77 ccq78 caq79 ccq80 :: ro2 caq77 ccq78 S75.cell :: ro96 caq79 ccq80 S75.log :: L)) _ := h.sel 5 [4, 0, 1, 2, 3] (by kernel_rfl) (by kernel_rfl)
                  refine op_stores (wn rfl) rfl hr rfl (by kernel_rfl) (by kernel_rfl) (vs := [.int .i64 S74.head_t_Base, .int .i64 S74.head_t_Frames, .int .i64 S74.head_frame, .int .i64 (wi (S74.head_stands + (1 : Int))), .int .i64 S74.head_code, .int .i64 S74.head_v, .int .i64 S74.kind, .int .i64 S74.slot, .int .i64 S74.give]) rfl rfl (by kernel_rfl) h (i := 0) (cs' := #[.int .i64 S74.head_t_Base, .int .i64 S74.head_t_Frames, .int .i64 S74.head_frame, .int .i64 (wi (S74.head_stands + (1 : Int))), .int .i64 S74.head_code, .int .i64 S74.head_v, .int .i64 S74.kind, .int .i64 S74.slot, .int .i64 S74.give]) rfl ?_; clear h; intro w h
                  refine wpList_nil ?_
                  replace h : Fit z (sepL (pts b6 (.cells #[.int .i64 S74.head_t_Base, .int .i64 S74.head_t_Frames, .int .i64 S74.head_frame, .int .i64 (wi (S74.head_stands + (1 : Int))), .int .i64 S74.head_code, .int .i64 S74.head_v, .int .i64 S74.kind, .int .i64 S74.slot, .int .i64 S74.give] 50) :: pts b5 (.cells #[.int .i64 S74.head_t_Base, .int .i64 S74.head_t_Frames, .int .i64 S74.head_frame, .int .i64 (wi (S74.head_stands + (1 : Int))), .int .i64 S74.head_code, .int .i64 S74.head_v, .int .i64 S74.kind, .int .i64 S74.slot, .int .i64 S74.give] 50) :: ob103 B0 S75 caq77 ccq78 caq79 ccq80 :: ro2 caq77 ccq78 S75.cell :: ro96 caq79 ccq80 S75.log :: L)) _ := h
                  refine then_normal ?_
                  refine wp_ret ?_
                  refine end_retC (cs := [.int .i64 S74.head_t_Base, .int .i64 S74.head_t_Frames, .int .i64 S74.head_frame, .int .i64 (wi (S74.head_stands + (1 : Int))), .int .i64 S74.head_code, .int .i64 S74.head_v, .int .i64 S74.kind, .int .i64 S74.slot, .int .i64 S74.give]) rfl hr (by kernel_rfl) (by kernel_rfl) (by kernel_rfl) ⟨h.cell 0 rfl, h.cell 1 rfl, h.cell 2 rfl, h.cell 3 rfl, h.cell 4 rfl, h.cell 5 rfl, h.cell 6 rfl, h.cell 7 rfl, h.cell 8 rfl, trivial⟩ ?_
                  replace h : Fit z (sepL (ob103 B0 S75 caq77 ccq78 caq79 ccq80 :: ro2 caq77 ccq78 S75.cell :: ro96 caq79 ccq80 S75.log :: L)) _ := h.sel 5 [2, 3, 4] (by kernel_rfl) (by kernel_rfl)
                  replace H := ej2 H; obtain ⟨rfl, rfl⟩ := H
                  exact ⟨caq77, ccq78, caq79, ccq80, rfl, h⟩
                ·
                  replace H := ifF c82 H
                  refine cond_ff hr (b := (decide (S74.head_stands > (0 : Int)))) (decide_eq_false c82) ?_
                  refine wp_skip ?_
                  refine then_normal ?_
                  refine wp_seq ?_
                  refine wp_region_lit ?_
                  refine op_val (wn rfl) rfl rfl hr (v := .agg #[.int .i64 S74.head_t_Base, .int .i64 S74.head_t_Frames, .int .i64 S74.head_frame, .int .i64 S74.head_stands, .int .i64 S74.head_code, .int .i64 S74.head_v, .int .i64 S74.kind, .int .i64 S74.slot, .int .i64 S74.give]) (rlm (cs := [.int .i64 S74.head_t_Base, .int .i64 S74.head_t_Frames, .int .i64 S74.head_frame, .int .i64 S74.head_stands, .int .i64 S74.head_code, .int .i64 S74.head_v, .int .i64 S74.kind, .int .i64 S74.slot, .int .i64 S74.give]) rfl (by kernel_rfl) (by kernel_rfl) (by kernel_rfl) ⟨h.cell 0 rfl, h.cell 1 rfl, h.cell 2 rfl, h.cell 3 rfl, h.cell 4 rfl, h.cell 5 rfl, h.cell 6 rfl, h.cell 7 rfl, h.cell 8 rfl, trivial⟩) ?_; clear hr a; intro a hr
                  replace h : Fit z (sepL (pts b6 (.cells #[.int .i64 0, .int .i64 0, .int .i64 0, .int .i64 0, .int .i64 0, .int .i64 0, .int .i64 0, .int .i64 0, .int .i64 0] 50) :: ob50 b5 S74 :: ob103 B0 S75 caq77 ccq78 caq79 ccq80 :: ro2 caq77 ccq78 S75.cell :: ro96 caq79 ccq80 S75.log :: L)) _ := h.sel 5 [4, 0, 1, 2, 3] (by kernel_rfl) (by kernel_rfl)
                  refine op_stores (wn rfl) rfl hr rfl (by kernel_rfl) (by kernel_rfl) (vs := [.int .i64 S74.head_t_Base, .int .i64 S74.head_t_Frames, .int .i64 S74.head_frame, .int .i64 S74.head_stands, .int .i64 S74.head_code, .int .i64 S74.head_v, .int .i64 S74.kind, .int .i64 S74.slot, .int .i64 S74.give]) rfl rfl (by kernel_rfl) h (i := 0) (cs' := #[.int .i64 S74.head_t_Base, .int .i64 S74.head_t_Frames, .int .i64 S74.head_frame, .int .i64 S74.head_stands, .int .i64 S74.head_code, .int .i64 S74.head_v, .int .i64 S74.kind, .int .i64 S74.slot, .int .i64 S74.give]) rfl ?_; clear h; intro w h
                  refine wpList_nil ?_
                  replace h : Fit z (sepL (ob50 b6 S74 :: ob50 b5 S74 :: ob103 B0 S75 caq77 ccq78 caq79 ccq80 :: ro2 caq77 ccq78 S75.cell :: ro96 caq79 ccq80 S75.log :: L)) _ := h
                  refine then_normal ?_
                  refine wp_ret ?_
                  refine end_retC (cs := [.int .i64 S74.head_t_Base, .int .i64 S74.head_t_Frames, .int .i64 S74.head_frame, .int .i64 S74.head_stands, .int .i64 S74.head_code, .int .i64 S74.head_v, .int .i64 S74.kind, .int .i64 S74.slot, .int .i64 S74.give]) rfl hr (by kernel_rfl) (by kernel_rfl) (by kernel_rfl) ⟨h.cell 0 rfl, h.cell 1 rfl, h.cell 2 rfl, h.cell 3 rfl, h.cell 4 rfl, h.cell 5 rfl, h.cell 6 rfl, h.cell 7 rfl, h.cell 8 rfl, trivial⟩ ?_
                  replace h : Fit z (sepL (ob103 B0 S75 caq77 ccq78 caq79 ccq80 :: ro2 caq77 ccq78 S75.cell :: ro96 caq79 ccq80 S75.log :: L)) _ := h.sel 5 [2, 3, 4] (by kernel_rfl) (by kernel_rfl)
                  replace H := ej2 H; obtain ⟨rfl, rfl⟩ := H
                  exact ⟨caq77, ccq78, caq79, ccq80, rfl, h⟩
              ·
                replace H := ifF c81 H
                refine cond_tt hr (b := (r73 != (0 : Int))) (bne_iff_ne.mpr c81) ?_
                refine wp_region_lit ?_
                replace H := bd1 H; obtain ⟨S83, e84, H⟩ := H
                refine ov hr (.pointer (some ⟨b5, 0, none⟩)) (by kernel_rfl) ?_; clear hr a; intro a hr
                have hc := frames_head_end_ok (H := e84) (h := h)
                refine op_call (wn rfl) rfl rfl hr (f := 56) (args := #[.pointer (some ⟨b5, 0, none⟩), .int .i64 1, .int .i64 0]) (by kernel_rfl) hc ?_; clear hc h
                rintro _ w ⟨rfl, h⟩; refine ⟨_, rfl, ?_⟩
                clear hr a; intro a hr
                refine wpList_nil ?_
                refine then_normal ?_
                refine wp_seq ?_
                refine wp_region_lit ?_
                refine op_val (wn rfl) rfl rfl hr (v := .agg #[.int .i64 S83.head_t_Base, .int .i64 S83.head_t_Frames, .int .i64 S83.head_frame, .int .i64 S83.head_stands, .int .i64 S83.head_code, .int .i64 S83.head_v, .int .i64 S83.kind, .int .i64 S83.slot, .int .i64 S83.give]) (rlm (cs := [.int .i64 S83.head_t_Base, .int .i64 S83.head_t_Frames, .int .i64 S83.head_frame, .int .i64 S83.head_stands, .int .i64 S83.head_code, .int .i64 S83.head_v, .int .i64 S83.kind, .int .i64 S83.slot, .int .i64 S83.give]) rfl (by kernel_rfl) (by kernel_rfl) (by kernel_rfl) ⟨h.cell 0 rfl, h.cell 1 rfl, h.cell 2 rfl, h.cell 3 rfl, h.cell 4 rfl, h.cell 5 rfl, h.cell 6 rfl, h.cell 7 rfl, h.cell 8 rfl, trivial⟩) ?_; clear hr a; intro a hr
                replace h : Fit z (sepL (pts b6 (.cells #[.int .i64 0, .int .i64 0, .int .i64 0, .int .i64 0, .int .i64 0, .int .i64 0, .int .i64 0, .int .i64 0, .int .i64 0] 50) :: ob50 b5 S83 :: ob103 B0 S75 caq77 ccq78 caq79 ccq80 :: ro2 caq77 ccq78 S75.cell :: ro96 caq79 ccq80 S75.log :: L)) _ := h.sel 5 [4, 0, 1, 2, 3] (by kernel_rfl) (by kernel_rfl)
                refine op_stores (wn rfl) rfl hr rfl (by kernel_rfl) (by kernel_rfl) (vs := [.int .i64 S83.head_t_Base, .int .i64 S83.head_t_Frames, .int .i64 S83.head_frame, .int .i64 S83.head_stands, .int .i64 S83.head_code, .int .i64 S83.head_v, .int .i64 S83.kind, .int .i64 S83.slot, .int .i64 S83.give]) rfl rfl (by kernel_rfl) h (i := 0) (cs' := #[.int .i64 S83.head_t_Base, .int .i64 S83.head_t_Frames, .int .i64 S83.head_frame, .int .i64 S83.head_stands, .int .i64 S83.head_code, .int .i64 S83.head_v, .int .i64 S83.kind, .int .i64 S83.slot, .int .i64 S83.give]) rfl ?_; clear h; intro w h
                refine wpList_nil ?_
                replace h : Fit z (sepL (ob50 b6 S83 :: ob50 b5 S83 :: ob103 B0 S75 caq77 ccq78 caq79 ccq80 :: ro2 caq77 ccq78 S75.cell :: ro96 caq79 ccq80 S75.log :: L)) _ := h
                refine then_normal ?_
                refine wp_ret ?_
                refine end_retC (cs := [.int .i64 S83.head_t_Base, .int .i64 S83.head_t_Frames, .int .i64 S83.head_frame, .int .i64 S83.head_stands, .int .i64 S83.head_code, .int .i64 S83.head_v, .int .i64 S83.kind, .int .i64 S83.slot, .int .i64 S83.give]) rfl hr (by kernel_rfl) (by kernel_rfl) (by kernel_rfl) ⟨h.cell 0 rfl, h.cell 1 rfl, h.cell 2 rfl, h.cell 3 rfl, h.cell 4 rfl, h.cell 5 rfl, h.cell 6 rfl, h.cell 7 rfl, h.cell 8 rfl, trivial⟩ ?_
                replace h : Fit z (sepL (ob103 B0 S75 caq77 ccq78 caq79 ccq80 :: ro2 caq77 ccq78 S75.cell :: ro96 caq79 ccq80 S75.log :: L)) _ := h.sel 5 [2, 3, 4] (by kernel_rfl) (by kernel_rfl)
                replace H := ej2 H; obtain ⟨rfl, rfl⟩ := H
                exact ⟨caq77, ccq78, caq79, ccq80, rfl, h⟩

/-- plunder/frames.Answer -/
def frames_Answer (p0 : T_frames_Op) : Option (Int × Int) :=
  (if p0 = (⟨0, 0, 0, 0, 0, 0, 0, 0, 0⟩ : T_frames_Op) then some (1, 0) else (if p0.head_stands > (0 : Int) then some (0, 0) else some (p0.head_code, p0.head_v)))
set_option maxRecDepth 100000 in
set_option maxHeartbeats 4000000 in
theorem frames_Answer_ok {z w : World} {L : List HProp} {p0 : T_frames_Op} {r0 : Int} {r1 : Int} (H : frames_Answer p0 = some (r0, r1)) (h : Fit z (sepL (L)) w)  :
    Calls Try.prog 26 #[.agg #[.int .i64 p0.head_t_Base, .int .i64 p0.head_t_Frames, .int .i64 p0.head_frame, .int .i64 p0.head_stands, .int .i64 p0.head_code, .int .i64 p0.head_v, .int .i64 p0.kind, .int .i64 p0.slot, .int .i64 p0.give]] w fun e w => e = .returned (.tuple #[.int .i64 r0, .int .i64 r1]) ∧ Fit z (sepL (L)) w := by
  unfold frames_Answer at H
  refine enter Try.func26 rfl 17 rfl rfl [(0, .agg #[.int .i64 p0.head_t_Base, .int .i64 p0.head_t_Frames, .int .i64 p0.head_frame, .int .i64 p0.head_stands, .int .i64 p0.head_code, .int .i64 p0.head_v, .int .i64 p0.kind, .int .i64 p0.slot, .int .i64 p0.give])] ⟨rfl, trivial⟩ ?_
  intro j a hr
  refine wp_seq ?_
  refine wp_region_lit ?_
  refine op_new (wn rfl) rfl rfl hr h (vf := fun b => .pointer (some ⟨b, 0, none⟩)) (cs := #[.int .i64 p0.head_t_Base, .int .i64 p0.head_t_Frames, .int .i64 p0.head_frame, .int .i64 p0.head_stands, .int .i64 p0.head_code, .int .i64 p0.head_v, .int .i64 p0.kind, .int .i64 p0.slot, .int .i64 p0.give]) (T := 50) (by kernel_rfl) ?_; clear h hr a; intro b1 w a h hr
  refine ovs [2, 3] [.int .i64 0, .int .i64 0] hr ⟨rfl, rfl⟩ (by kernel_rfl) ?_; clear hr a; intro a hr
  refine wpList_nil ?_
  refine then_normal ?_
  refine wp_seq ?_
  refine wp_seq ?_
  refine wp_region_lit ?_
  refine op_val (wn rfl) rfl rfl hr (v := .agg #[.int .i64 p0.head_t_Base, .int .i64 p0.head_t_Frames, .int .i64 p0.head_frame, .int .i64 p0.head_stands, .int .i64 p0.head_code, .int .i64 p0.head_v, .int .i64 p0.kind, .int .i64 p0.slot, .int .i64 p0.give]) (rlm (cs := [.int .i64 p0.head_t_Base, .int .i64 p0.head_t_Frames, .int .i64 p0.head_frame, .int .i64 p0.head_stands, .int .i64 p0.head_code, .int .i64 p0.head_v, .int .i64 p0.kind, .int .i64 p0.slot, .int .i64 p0.give]) rfl (by kernel_rfl) (by kernel_rfl) (by kernel_rfl) ⟨h.cell 0 rfl, h.cell 1 rfl, h.cell 2 rfl, h.cell 3 rfl, h.cell 4 rfl, h.cell 5 rfl, h.cell 6 rfl, h.cell 7 rfl, h.cell 8 rfl, trivial⟩) ?_; clear hr a; intro a hr
  refine ov hr (.agg #[.int .i64 0, .int .i64 0, .int .i64 0, .int .i64 0, .int .i64 0, .int .i64 0, .int .i64 0, .int .i64 0, .int .i64 0]) (by kernel_rfl) ?_; clear hr a; intro a hr
  refine op_val (wn rfl) rfl rfl hr (v := .bool (decide (p0 = (⟨0, 0, 0, 0, 0, 0, 0, 0, 0⟩ : T_frames_Op)))) (rb (reqd rfl (by kernel_rfl) (by kernel_rfl) (by kernel_rfl) (by kernel_rfl) (by kernel_rfl) (by kernel_rfl)) (eq_T_frames_Op p0 (⟨0, 0, 0, 0, 0, 0, 0, 0, 0⟩ : T_frames_Op))) ?_; clear hr a; intro a hr
  refine wpList_nil ?_
  refine then_normal ?_
  by_cases c2 : p0 = (⟨0, 0, 0, 0, 0, 0, 0, 0, 0⟩ : T_frames_Op)
  ·
    replace H := ifT c2 H
    refine cond_tt hr (b := (decide (p0 = (⟨0, 0, 0, 0, 0, 0, 0, 0, 0⟩ : T_frames_Op)))) (decide_eq_true c2) ?_
    refine wp_seq ?_
    refine wp_region_lit ?_
    refine ovs [2, 3] [.int .i64 1, .int .i64 0] hr ⟨rfl, rfl⟩ (by kernel_rfl) ?_; clear hr a; intro a hr
    refine wpList_nil ?_
    refine then_normal ?_
    refine wp_ret ?_
    refine then_ret ?_
    refine end_ret2 (v := .int .i64 1) (v' := .int .i64 0) rfl hr (by kernel_rfl) (by kernel_rfl) ?_
    replace h : Fit z (sepL (L)) _ := h.sel 1 [] (by kernel_rfl) (by kernel_rfl)
    replace H := ej2 H; obtain ⟨rfl, rfl⟩ := H
    exact ⟨rfl, h⟩
  ·
    replace H := ifF c2 H
    refine cond_ff hr (b := (decide (p0 = (⟨0, 0, 0, 0, 0, 0, 0, 0, 0⟩ : T_frames_Op)))) (decide_eq_false c2) ?_
    refine wp_skip ?_
    refine then_normal ?_
    refine wp_seq ?_
    refine wp_seq ?_
    refine wp_region_lit ?_
    refine ovs [7, 8] [.pointer (some ⟨b1, 0, none⟩), .pointer (some ⟨b1, 3, none⟩)] hr ⟨rfl, rfl⟩ (by kernel_rfl) ?_; clear hr a; intro a hr
    refine op_val (wn rfl) rfl rfl hr (v := .int .i64 p0.head_stands) (rl rfl (by kernel_rfl) (by kernel_rfl) (h.cell 3 rfl)) ?_; clear hr a; intro a hr
    refine ov hr (.bool (decide (p0.head_stands > (0 : Int)))) (by kernel_rfl) ?_; clear hr a; intro a hr
    refine wpList_nil ?_
    refine then_normal ?_
    by_cases c3 : p0.head_stands > (0 : Int)
    ·
      replace H := ifT c3 H
      refine cond_tt hr (b := (decide (p0.head_stands > (0 : Int)))) (decide_eq_true c3) ?_
      refine wp_seq ?_
      refine wp_region_lit ?_
      refine ovs [2, 3] [.int .i64 0, .int .i64 0] hr ⟨rfl, rfl⟩ (by kernel_rfl) ?_; clear hr a; intro a hr
      refine wpList_nil ?_
      refine then_normal ?_
      refine wp_ret ?_
      refine then_ret ?_
      refine end_ret2 (v := .int .i64 0) (v' := .int .i64 0) rfl hr (by kernel_rfl) (by kernel_rfl) ?_
      replace h : Fit z (sepL (L)) _ := h.sel 1 [] (by kernel_rfl) (by kernel_rfl)
      replace H := ej2 H; obtain ⟨rfl, rfl⟩ := H
      exact ⟨rfl, h⟩
    ·
      replace H := ifF c3 H
      refine cond_ff hr (b := (decide (p0.head_stands > (0 : Int)))) (decide_eq_false c3) ?_
      refine wp_skip ?_
      refine then_normal ?_
      refine wp_seq ?_
      refine reg_E (fun w => heldC w b1 4 [.int .i64 p0.head_code] ∧ heldC w b1 5 [.int .i64 p0.head_v] ∧ True) [0, 1, 3, 4] h (by kernel_rfl) ?_; intro w h
      change wpAnyE _ _ _ _ _ _ 8 (Array.replicate 8 false) a w
      have hgo : ∀ w w', CellsGo w w' → (heldC w b1 4 [.int .i64 p0.head_code] ∧ heldC w b1 5 [.int .i64 p0.head_v] ∧ True) → heldC w' b1 4 [.int .i64 p0.head_code] ∧ heldC w' b1 5 [.int .i64 p0.head_v] ∧ True := fun w w' g hD => ⟨heldC_go _ _ _ _ _ g hD.1, heldC_go _ _ _ _ _ g hD.2.1, trivial⟩
      refine evD hgo ⟨⟨h.cell 4 rfl, trivial⟩, ⟨h.cell 5 rfl, trivial⟩, trivial⟩ 7 0 rfl (by kernel_rfl) (wn rfl) hr (.pointer (some ⟨b1, 0, none⟩)) (fun w => by kernel_rfl) ?_; clear hr a; intro a hr
      refine evD hgo ⟨⟨h.cell 4 rfl, trivial⟩, ⟨h.cell 5 rfl, trivial⟩, trivial⟩ 6 1 rfl (by kernel_rfl) (wn rfl) hr (.pointer (some ⟨b1, 4, none⟩)) (fun w => by kernel_rfl) ?_; clear hr a; intro a hr
      refine evD hgo ⟨⟨h.cell 4 rfl, trivial⟩, ⟨h.cell 5 rfl, trivial⟩, trivial⟩ 5 3 rfl (by kernel_rfl) (wn rfl) hr (.pointer (some ⟨b1, 0, none⟩)) (fun w => by kernel_rfl) ?_; clear hr a; intro a hr
      refine evD hgo ⟨⟨h.cell 4 rfl, trivial⟩, ⟨h.cell 5 rfl, trivial⟩, trivial⟩ 4 4 rfl (by kernel_rfl) (wn rfl) hr (.pointer (some ⟨b1, 5, none⟩)) (fun w => by kernel_rfl) ?_; clear hr a; intro a hr
      refine el [0, 1, 3, 4] (b := b1) (off := 4) (cs := [.int .i64 p0.head_code]) (fun _ hk => ⟨hk, fun w hD => hD.1⟩) 3 2 rfl (by kernel_rfl) (wn rfl) hr (.int .i64 p0.head_code) ⟨h.cell 4 rfl, trivial⟩ (fun w hc => rl rfl (by kernel_rfl) (by kernel_rfl) hc.1) ?_; clear hr a; intro a hr
      refine ev 2 6 rfl (by kernel_rfl) (wn rfl) hr (.int .i64 p0.head_code) (fun w => by kernel_rfl) ?_; clear hr a; intro a hr
      refine el [0, 1, 3, 4] (b := b1) (off := 5) (cs := [.int .i64 p0.head_v]) (fun _ hk => ⟨hk, fun w hD => hD.2.1⟩) 1 5 rfl (by kernel_rfl) (wn rfl) hr (.int .i64 p0.head_v) ⟨h.cell 5 rfl, trivial⟩ (fun w hc => rl rfl (by kernel_rfl) (by kernel_rfl) hc.1) ?_; clear hr a; intro a hr
      refine ev 0 7 rfl (by kernel_rfl) (wn rfl) hr (.int .i64 p0.head_v) (fun w => by kernel_rfl) ?_; clear hr a; intro a hr
      refine e_end (by kernel_rfl) ?_
      refine then_normal ?_
      refine wp_ret ?_
      refine end_ret2 (v := .int .i64 p0.head_code) (v' := .int .i64 p0.head_v) rfl hr (by kernel_rfl) (by kernel_rfl) ?_
      replace h : Fit z (sepL (L)) _ := h.sel 1 [] (by kernel_rfl) (by kernel_rfl)
      replace H := ej2 H; obtain ⟨rfl, rfl⟩ := H
      exact ⟨rfl, h⟩

/-- plunder/frames.Sync -/
def frames_Sync (p0 : T_frames_Table) (p1 : Int) : Option (T_frames_Op) :=
  ob1 (frames_begin 3 p0 p1 0 0) (fun r3 => some r3)
set_option maxRecDepth 100000 in
set_option maxHeartbeats 4000000 in
theorem frames_Sync_ok {z w : World} {L : List HProp} {p0 : T_frames_Table} {p1 : Int} {r0 : T_frames_Op} (H : frames_Sync p0 p1 = some r0) (h : Fit z (sepL (L)) w)  :
    Calls Try.prog 31 #[.agg #[.int .i64 p0.Base, .int .i64 p0.Frames], .int .i64 p1] w fun e w => e = .returned (.agg #[.int .i64 r0.head_t_Base, .int .i64 r0.head_t_Frames, .int .i64 r0.head_frame, .int .i64 r0.head_stands, .int .i64 r0.head_code, .int .i64 r0.head_v, .int .i64 r0.kind, .int .i64 r0.slot, .int .i64 r0.give]) ∧ Fit z (sepL (L)) w := by
  unfold frames_Sync at H
  refine enter Try.func31 rfl 8 rfl rfl [(0, .agg #[.int .i64 p0.Base, .int .i64 p0.Frames]), (1, .int .i64 p1)] ⟨rfl, rfl, trivial⟩ ?_
  intro j a hr
  refine wp_seq ?_
  refine wp_region_lit ?_
  refine op_new (wn rfl) rfl rfl hr h (vf := fun b => .pointer (some ⟨b, 0, none⟩)) (cs := #[.int .i64 p0.Base, .int .i64 p0.Frames]) (T := 39) (by kernel_rfl) ?_; clear h hr a; intro b1 w a h hr
  refine op_new (wn rfl) rfl rfl hr h (vf := fun b => .pointer (some ⟨b, 0, none⟩)) (cs := #[.int .i64 0, .int .i64 0, .int .i64 0, .int .i64 0, .int .i64 0, .int .i64 0, .int .i64 0, .int .i64 0, .int .i64 0]) (T := 50) (by kernel_rfl) ?_; clear h hr a; intro b2 w a h hr
  refine wpList_nil ?_
  refine then_normal ?_
  refine wp_seq ?_
  refine wp_region_lit ?_
  refine op_val (wn rfl) rfl rfl hr (v := .agg #[.int .i64 p0.Base, .int .i64 p0.Frames]) (rlm (cs := [.int .i64 p0.Base, .int .i64 p0.Frames]) rfl (by kernel_rfl) (by kernel_rfl) (by kernel_rfl) ⟨(h.pick 1).cell 0 rfl, (h.pick 1).cell 1 rfl, trivial⟩) ?_; clear hr a; intro a hr
  replace H := bd1 H; obtain ⟨r3, e4, H⟩ := H
  refine ov hr (.int .i64 p1) (by kernel_rfl) ?_; clear hr a; intro a hr
  have hc := frames_begin_ok (H := e4) (h := h)
  refine op_call (wn rfl) rfl rfl hr (f := 55) (args := #[.int .i64 3, .agg #[.int .i64 p0.Base, .int .i64 p0.Frames], .int .i64 p1, .int .i64 0, .int .i64 0]) (by kernel_rfl) hc ?_; clear hc h
  rintro _ w ⟨rfl, h⟩; refine ⟨_, rfl, ?_⟩
  clear hr a; intro a hr
  refine op_stores (wn rfl) rfl hr rfl (by kernel_rfl) (by kernel_rfl) (vs := [.int .i64 r3.head_t_Base, .int .i64 r3.head_t_Frames, .int .i64 r3.head_frame, .int .i64 r3.head_stands, .int .i64 r3.head_code, .int .i64 r3.head_v, .int .i64 r3.kind, .int .i64 r3.slot, .int .i64 r3.give]) rfl rfl (by kernel_rfl) h (i := 0) (cs' := #[.int .i64 r3.head_t_Base, .int .i64 r3.head_t_Frames, .int .i64 r3.head_frame, .int .i64 r3.head_stands, .int .i64 r3.head_code, .int .i64 r3.head_v, .int .i64 r3.kind, .int .i64 r3.slot, .int .i64 r3.give]) rfl ?_; clear h; intro w h
  refine wpList_nil ?_
  replace h : Fit z (sepL (ob50 b2 r3 :: ob39 b1 p0 :: L)) _ := h
  refine then_normal ?_
  refine wp_ret ?_
  refine end_retC (cs := [.int .i64 r3.head_t_Base, .int .i64 r3.head_t_Frames, .int .i64 r3.head_frame, .int .i64 r3.head_stands, .int .i64 r3.head_code, .int .i64 r3.head_v, .int .i64 r3.kind, .int .i64 r3.slot, .int .i64 r3.give]) rfl hr (by kernel_rfl) (by kernel_rfl) (by kernel_rfl) ⟨h.cell 0 rfl, h.cell 1 rfl, h.cell 2 rfl, h.cell 3 rfl, h.cell 4 rfl, h.cell 5 rfl, h.cell 6 rfl, h.cell 7 rfl, h.cell 8 rfl, trivial⟩ ?_
  replace h : Fit z (sepL (L)) _ := h.sel 2 [] (by kernel_rfl) (by kernel_rfl)
  replace H := ej1 H; subst H
  exact ⟨rfl, h⟩

/-- plunder/frames.Finish -/
def frames_Finish (p0 : T_frames_Table) (p1 : Int) (p2 : Int) (p3 : Int) : Option (T_frames_Op) :=
  ob1 (frames_begin 2 p0 p1 p2 p3) (fun r3 => some r3)
set_option maxRecDepth 100000 in
set_option maxHeartbeats 4000000 in
theorem frames_Finish_ok {z w : World} {L : List HProp} {p0 : T_frames_Table} {p1 : Int} {p2 : Int} {p3 : Int} {r0 : T_frames_Op} (H : frames_Finish p0 p1 p2 p3 = some r0) (h : Fit z (sepL (L)) w)  :
    Calls Try.prog 32 #[.agg #[.int .i64 p0.Base, .int .i64 p0.Frames], .int .i64 p1, .int .i64 p2, .int .i64 p3] w fun e w => e = .returned (.agg #[.int .i64 r0.head_t_Base, .int .i64 r0.head_t_Frames, .int .i64 r0.head_frame, .int .i64 r0.head_stands, .int .i64 r0.head_code, .int .i64 r0.head_v, .int .i64 r0.kind, .int .i64 r0.slot, .int .i64 r0.give]) ∧ Fit z (sepL (L)) w := by
  unfold frames_Finish at H
  refine enter Try.func32 rfl 14 rfl rfl [(0, .agg #[.int .i64 p0.Base, .int .i64 p0.Frames]), (1, .int .i64 p1), (2, .int .i64 p2), (3, .int .i64 p3)] ⟨rfl, rfl, rfl, rfl, trivial⟩ ?_
  intro j a hr
  refine wp_seq ?_
  refine wp_region_lit ?_
  refine op_new (wn rfl) rfl rfl hr h (vf := fun b => .pointer (some ⟨b, 0, none⟩)) (cs := #[.int .i64 p0.Base, .int .i64 p0.Frames]) (T := 39) (by kernel_rfl) ?_; clear h hr a; intro b1 w a h hr
  refine op_new (wn rfl) rfl rfl hr h (vf := fun b => .pointer (some ⟨b, 0, none⟩)) (cs := #[.int .i64 0, .int .i64 0, .int .i64 0, .int .i64 0, .int .i64 0, .int .i64 0, .int .i64 0, .int .i64 0, .int .i64 0]) (T := 50) (by kernel_rfl) ?_; clear h hr a; intro b2 w a h hr
  refine wpList_nil ?_
  refine then_normal ?_
  refine wp_seq ?_
  refine wp_region_lit ?_
  refine op_val (wn rfl) rfl rfl hr (v := .agg #[.int .i64 p0.Base, .int .i64 p0.Frames]) (rlm (cs := [.int .i64 p0.Base, .int .i64 p0.Frames]) rfl (by kernel_rfl) (by kernel_rfl) (by kernel_rfl) ⟨(h.pick 1).cell 0 rfl, (h.pick 1).cell 1 rfl, trivial⟩) ?_; clear hr a; intro a hr
  replace H := bd1 H; obtain ⟨r3, e4, H⟩ := H
  refine ovs [10, 11, 12] [.int .i64 p1, .int .i64 p2, .int .i64 p3] hr ⟨rfl, rfl⟩ (by kernel_rfl) ?_; clear hr a; intro a hr
  have hc := frames_begin_ok (H := e4) (h := h)
  refine op_call (wn rfl) rfl rfl hr (f := 55) (args := #[.int .i64 2, .agg #[.int .i64 p0.Base, .int .i64 p0.Frames], .int .i64 p1, .int .i64 p2, .int .i64 p3]) (by kernel_rfl) hc ?_; clear hc h
  rintro _ w ⟨rfl, h⟩; refine ⟨_, rfl, ?_⟩
  clear hr a; intro a hr
  refine op_stores (wn rfl) rfl hr rfl (by kernel_rfl) (by kernel_rfl) (vs := [.int .i64 r3.head_t_Base, .int .i64 r3.head_t_Frames, .int .i64 r3.head_frame, .int .i64 r3.head_stands, .int .i64 r3.head_code, .int .i64 r3.head_v, .int .i64 r3.kind, .int .i64 r3.slot, .int .i64 r3.give]) rfl rfl (by kernel_rfl) h (i := 0) (cs' := #[.int .i64 r3.head_t_Base, .int .i64 r3.head_t_Frames, .int .i64 r3.head_frame, .int .i64 r3.head_stands, .int .i64 r3.head_code, .int .i64 r3.head_v, .int .i64 r3.kind, .int .i64 r3.slot, .int .i64 r3.give]) rfl ?_; clear h; intro w h
  refine wpList_nil ?_
  replace h : Fit z (sepL (ob50 b2 r3 :: ob39 b1 p0 :: L)) _ := h
  refine then_normal ?_
  refine wp_ret ?_
  refine end_retC (cs := [.int .i64 r3.head_t_Base, .int .i64 r3.head_t_Frames, .int .i64 r3.head_frame, .int .i64 r3.head_stands, .int .i64 r3.head_code, .int .i64 r3.head_v, .int .i64 r3.kind, .int .i64 r3.slot, .int .i64 r3.give]) rfl hr (by kernel_rfl) (by kernel_rfl) (by kernel_rfl) ⟨h.cell 0 rfl, h.cell 1 rfl, h.cell 2 rfl, h.cell 3 rfl, h.cell 4 rfl, h.cell 5 rfl, h.cell 6 rfl, h.cell 7 rfl, h.cell 8 rfl, trivial⟩ ?_
  replace h : Fit z (sepL (L)) _ := h.sel 2 [] (by kernel_rfl) (by kernel_rfl)
  replace H := ej1 H; subst H
  exact ⟨rfl, h⟩

/-- plunder/frames.Fetch -/
def frames_Fetch (p0 : T_frames_Table) (p1 : Int) (p2 : Int) : Option (T_frames_Op) :=
  ob1 (frames_begin 5 p0 p1 p2 0) (fun r3 => some r3)
set_option maxRecDepth 100000 in
set_option maxHeartbeats 4000000 in
theorem frames_Fetch_ok {z w : World} {L : List HProp} {p0 : T_frames_Table} {p1 : Int} {p2 : Int} {r0 : T_frames_Op} (H : frames_Fetch p0 p1 p2 = some r0) (h : Fit z (sepL (L)) w)  :
    Calls Try.prog 33 #[.agg #[.int .i64 p0.Base, .int .i64 p0.Frames], .int .i64 p1, .int .i64 p2] w fun e w => e = .returned (.agg #[.int .i64 r0.head_t_Base, .int .i64 r0.head_t_Frames, .int .i64 r0.head_frame, .int .i64 r0.head_stands, .int .i64 r0.head_code, .int .i64 r0.head_v, .int .i64 r0.kind, .int .i64 r0.slot, .int .i64 r0.give]) ∧ Fit z (sepL (L)) w := by
  unfold frames_Fetch at H
  refine enter Try.func33 rfl 11 rfl rfl [(0, .agg #[.int .i64 p0.Base, .int .i64 p0.Frames]), (1, .int .i64 p1), (2, .int .i64 p2)] ⟨rfl, rfl, rfl, trivial⟩ ?_
  intro j a hr
  refine wp_seq ?_
  refine wp_region_lit ?_
  refine op_new (wn rfl) rfl rfl hr h (vf := fun b => .pointer (some ⟨b, 0, none⟩)) (cs := #[.int .i64 p0.Base, .int .i64 p0.Frames]) (T := 39) (by kernel_rfl) ?_; clear h hr a; intro b1 w a h hr
  refine op_new (wn rfl) rfl rfl hr h (vf := fun b => .pointer (some ⟨b, 0, none⟩)) (cs := #[.int .i64 0, .int .i64 0, .int .i64 0, .int .i64 0, .int .i64 0, .int .i64 0, .int .i64 0, .int .i64 0, .int .i64 0]) (T := 50) (by kernel_rfl) ?_; clear h hr a; intro b2 w a h hr
  refine wpList_nil ?_
  refine then_normal ?_
  refine wp_seq ?_
  refine wp_region_lit ?_
  refine op_val (wn rfl) rfl rfl hr (v := .agg #[.int .i64 p0.Base, .int .i64 p0.Frames]) (rlm (cs := [.int .i64 p0.Base, .int .i64 p0.Frames]) rfl (by kernel_rfl) (by kernel_rfl) (by kernel_rfl) ⟨(h.pick 1).cell 0 rfl, (h.pick 1).cell 1 rfl, trivial⟩) ?_; clear hr a; intro a hr
  replace H := bd1 H; obtain ⟨r3, e4, H⟩ := H
  refine ovs [8, 9] [.int .i64 p1, .int .i64 p2] hr ⟨rfl, rfl⟩ (by kernel_rfl) ?_; clear hr a; intro a hr
  have hc := frames_begin_ok (H := e4) (h := h)
  refine op_call (wn rfl) rfl rfl hr (f := 55) (args := #[.int .i64 5, .agg #[.int .i64 p0.Base, .int .i64 p0.Frames], .int .i64 p1, .int .i64 p2, .int .i64 0]) (by kernel_rfl) hc ?_; clear hc h
  rintro _ w ⟨rfl, h⟩; refine ⟨_, rfl, ?_⟩
  clear hr a; intro a hr
  refine op_stores (wn rfl) rfl hr rfl (by kernel_rfl) (by kernel_rfl) (vs := [.int .i64 r3.head_t_Base, .int .i64 r3.head_t_Frames, .int .i64 r3.head_frame, .int .i64 r3.head_stands, .int .i64 r3.head_code, .int .i64 r3.head_v, .int .i64 r3.kind, .int .i64 r3.slot, .int .i64 r3.give]) rfl rfl (by kernel_rfl) h (i := 0) (cs' := #[.int .i64 r3.head_t_Base, .int .i64 r3.head_t_Frames, .int .i64 r3.head_frame, .int .i64 r3.head_stands, .int .i64 r3.head_code, .int .i64 r3.head_v, .int .i64 r3.kind, .int .i64 r3.slot, .int .i64 r3.give]) rfl ?_; clear h; intro w h
  refine wpList_nil ?_
  replace h : Fit z (sepL (ob50 b2 r3 :: ob39 b1 p0 :: L)) _ := h
  refine then_normal ?_
  refine wp_ret ?_
  refine end_retC (cs := [.int .i64 r3.head_t_Base, .int .i64 r3.head_t_Frames, .int .i64 r3.head_frame, .int .i64 r3.head_stands, .int .i64 r3.head_code, .int .i64 r3.head_v, .int .i64 r3.kind, .int .i64 r3.slot, .int .i64 r3.give]) rfl hr (by kernel_rfl) (by kernel_rfl) (by kernel_rfl) ⟨h.cell 0 rfl, h.cell 1 rfl, h.cell 2 rfl, h.cell 3 rfl, h.cell 4 rfl, h.cell 5 rfl, h.cell 6 rfl, h.cell 7 rfl, h.cell 8 rfl, trivial⟩ ?_
  replace h : Fit z (sepL (L)) _ := h.sel 2 [] (by kernel_rfl) (by kernel_rfl)
  replace H := ej1 H; subst H
  exact ⟨rfl, h⟩


end Go.Proofs.Ytnghahgfcaolbaa.Mo
