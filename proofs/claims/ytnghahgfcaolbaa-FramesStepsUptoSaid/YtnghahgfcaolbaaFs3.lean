/- what the functions compute, as plain Lean functions, and that they do -/
import Derived.Test.YtnghahgfcaolbaaFs2
namespace Go.Proofs.Ytnghahgfcaolbaa.Mo
open Go Go.RowKit Go.Proofs.Ytnghahgfcaolbaa.SL Go.Proofs.Ytnghahgfcaolbaa.GX
set_option linter.unusedVariables false
set_option linter.unusedSimpArgs false

/-- plunder/plunderlaw8.answers -/
def plunderlaw8_answers (p0 : T_frames_Op) (p1 : T_plunderref8_Op) : Option (Bool) :=
  ob2 (frames_Answer p0) (fun r3 r4 => (if r3 = p1.Code then some (r4 == p1.Came) else some false))
set_option maxRecDepth 100000 in
set_option maxHeartbeats 4000000 in
theorem plunderlaw8_answers_ok {z w : World} {L : List HProp} {p0 : T_frames_Op} {p1 : T_plunderref8_Op} {r0 : Bool} (H : plunderlaw8_answers p0 p1 = some r0) (h : Fit z (sepL (L)) w)  :
    Calls Try.prog 38 #[.agg #[.int .i64 p0.head_t_Base, .int .i64 p0.head_t_Frames, .int .i64 p0.head_frame, .int .i64 p0.head_stands, .int .i64 p0.head_code, .int .i64 p0.head_v, .int .i64 p0.kind, .int .i64 p0.slot, .int .i64 p0.give], .agg #[.int .i64 p1.Kind, .int .i64 p1.Join, .int .i64 p1.Cell, .int .i64 p1.V, .int .i64 p1.Next, .int .i64 p1.Frames, .int .i64 p1.Made, .int .i64 p1.Code, .int .i64 p1.Came]] w fun e w => e = .returned (.bool r0) ∧ Fit z (sepL (L)) w := by
  unfold plunderlaw8_answers at H
  refine enter Try.func38 rfl 22 rfl rfl [(0, .agg #[.int .i64 p0.head_t_Base, .int .i64 p0.head_t_Frames, .int .i64 p0.head_frame, .int .i64 p0.head_stands, .int .i64 p0.head_code, .int .i64 p0.head_v, .int .i64 p0.kind, .int .i64 p0.slot, .int .i64 p0.give]), (1, .agg #[.int .i64 p1.Kind, .int .i64 p1.Join, .int .i64 p1.Cell, .int .i64 p1.V, .int .i64 p1.Next, .int .i64 p1.Frames, .int .i64 p1.Made, .int .i64 p1.Code, .int .i64 p1.Came])] ⟨rfl, rfl, trivial⟩ ?_
  intro j a hr
  refine wp_seq ?_
  refine wp_region_lit ?_
  refine op_new (wn rfl) rfl rfl hr h (vf := fun b => .pointer (some ⟨b, 0, none⟩)) (cs := #[.int .i64 p0.head_t_Base, .int .i64 p0.head_t_Frames, .int .i64 p0.head_frame, .int .i64 p0.head_stands, .int .i64 p0.head_code, .int .i64 p0.head_v, .int .i64 p0.kind, .int .i64 p0.slot, .int .i64 p0.give]) (T := 50) (by kernel_rfl) ?_; clear h hr a; intro b1 w a h hr
  refine op_new (wn rfl) rfl rfl hr h (vf := fun b => .pointer (some ⟨b, 0, none⟩)) (cs := #[.int .i64 p1.Kind, .int .i64 p1.Join, .int .i64 p1.Cell, .int .i64 p1.V, .int .i64 p1.Next, .int .i64 p1.Frames, .int .i64 p1.Made, .int .i64 p1.Code, .int .i64 p1.Came]) (T := 78) (by kernel_rfl) ?_; clear h hr a; intro b2 w a h hr
  refine ov hr (.bool false) (by kernel_rfl) ?_; clear hr a; intro a hr
  refine wpList_nil ?_
  refine then_normal ?_
  refine wp_seq ?_
  refine wp_region_lit ?_
  refine op_val (wn rfl) rfl rfl hr (v := .agg #[.int .i64 p0.head_t_Base, .int .i64 p0.head_t_Frames, .int .i64 p0.head_frame, .int .i64 p0.head_stands, .int .i64 p0.head_code, .int .i64 p0.head_v, .int .i64 p0.kind, .int .i64 p0.slot, .int .i64 p0.give]) (rlm (cs := [.int .i64 p0.head_t_Base, .int .i64 p0.head_t_Frames, .int .i64 p0.head_frame, .int .i64 p0.head_stands, .int .i64 p0.head_code, .int .i64 p0.head_v, .int .i64 p0.kind, .int .i64 p0.slot, .int .i64 p0.give]) rfl (by kernel_rfl) (by kernel_rfl) (by kernel_rfl) ⟨(h.pick 1).cell 0 rfl, (h.pick 1).cell 1 rfl, (h.pick 1).cell 2 rfl, (h.pick 1).cell 3 rfl, (h.pick 1).cell 4 rfl, (h.pick 1).cell 5 rfl, (h.pick 1).cell 6 rfl, (h.pick 1).cell 7 rfl, (h.pick 1).cell 8 rfl, trivial⟩) ?_; clear hr a; intro a hr
  replace H := bd2 H; obtain ⟨r3, r4, e5, H⟩ := H
  have hc := frames_Answer_ok (H := e5) (h := h)
  refine op_call (wn rfl) rfl rfl hr (f := 26) (args := #[.agg #[.int .i64 p0.head_t_Base, .int .i64 p0.head_t_Frames, .int .i64 p0.head_frame, .int .i64 p0.head_stands, .int .i64 p0.head_code, .int .i64 p0.head_v, .int .i64 p0.kind, .int .i64 p0.slot, .int .i64 p0.give]]) (by kernel_rfl) hc ?_; clear hc h
  rintro _ w ⟨rfl, h⟩; refine ⟨_, rfl, ?_⟩
  clear hr a; intro a hr
  refine ovs [7, 10, 11, 5, 6] [.tuple #[.int .i64 r3, .int .i64 r4], .int .i64 r3, .int .i64 r4, .int .i64 r3, .int .i64 r4] hr ⟨rfl, rfl⟩ (by kernel_rfl) ?_; clear hr a; intro a hr
  refine wpList_nil ?_
  refine then_normal ?_
  refine wp_seq ?_
  refine wp_region_lit ?_
  refine ovs [12, 13] [.int .i64 r3, .pointer (some ⟨b2, 7, none⟩)] hr ⟨rfl, rfl⟩ (by kernel_rfl) ?_; clear hr a; intro a hr
  refine op_val (wn rfl) rfl rfl hr (v := .int .i64 p1.Code) (rl rfl (by kernel_rfl) (by kernel_rfl) (h.cell 7 rfl)) ?_; clear hr a; intro a hr
  refine ovs [15, 16] [.bool (r3 == p1.Code), .bool (r3 == p1.Code)] hr ⟨rfl, rfl⟩ (by kernel_rfl) ?_; clear hr a; intro a hr
  by_cases c6 : r3 = p1.Code
  ·
    replace H := ifT c6 H
    refine op_val ((wg hr rfl rfl rfl (b' := (r3 == p1.Code)) (by kernel_rfl)).trans (by rw [show (r3 == p1.Code) = true from (beq_iff_eq.mpr c6)]; rfl)) rfl rfl hr (v := .int .i64 r4) (by kernel_rfl) ?_; clear hr a; intro a hr
    refine op_val ((wg hr rfl rfl rfl (b' := (r3 == p1.Code)) (by kernel_rfl)).trans (by rw [show (r3 == p1.Code) = true from (beq_iff_eq.mpr c6)]; rfl)) rfl rfl hr (v := .pointer (some ⟨b2, 8, none⟩)) (by kernel_rfl) ?_; clear hr a; intro a hr
    refine op_val ((wg hr rfl rfl rfl (b' := (r3 == p1.Code)) (by kernel_rfl)).trans (by rw [show (r3 == p1.Code) = true from (beq_iff_eq.mpr c6)]; rfl)) rfl rfl hr (v := .int .i64 p1.Came) (rl rfl (by kernel_rfl) (by kernel_rfl) (h.cell 8 rfl)) ?_; clear hr a; intro a hr
    refine op_val ((wg hr rfl rfl rfl (b' := (r3 == p1.Code)) (by kernel_rfl)).trans (by rw [show (r3 == p1.Code) = true from (beq_iff_eq.mpr c6)]; rfl)) rfl rfl hr (v := .bool (r4 == p1.Came)) (by kernel_rfl) ?_; clear hr a; intro a hr
    refine op_val (wn rfl) rfl rfl hr (v := .bool (r4 == p1.Came)) (rp_t (b := (r3 == p1.Code)) rfl (by kernel_rfl) (beq_iff_eq.mpr c6) (by kernel_rfl)) ?_; clear hr a; intro a hr
    refine ov hr (.bool (r4 == p1.Came)) (by kernel_rfl) ?_; clear hr a; intro a hr
    refine wpList_nil ?_
    refine then_normal ?_
    refine wp_ret ?_
    refine end_ret1 (v := .bool (r4 == p1.Came)) rfl hr (by kernel_rfl) ?_
    replace h : Fit z (sepL (L)) _ := h.sel 2 [] (by kernel_rfl) (by kernel_rfl)
    replace H := ej1 H; subst H
    exact ⟨rfl, h⟩
  ·
    replace H := ifF c6 H
    refine op_off ((wg hr rfl rfl rfl (b' := (r3 == p1.Code)) (by kernel_rfl)).trans (by rw [show (r3 == p1.Code) = false from (beq_eq_false_iff_ne.mpr c6)]; rfl)) rfl rfl hr ?_; clear hr a; intro a hr
    refine op_off ((wg hr rfl rfl rfl (b' := (r3 == p1.Code)) (by kernel_rfl)).trans (by rw [show (r3 == p1.Code) = false from (beq_eq_false_iff_ne.mpr c6)]; rfl)) rfl rfl hr ?_; clear hr a; intro a hr
    refine op_off ((wg hr rfl rfl rfl (b' := (r3 == p1.Code)) (by kernel_rfl)).trans (by rw [show (r3 == p1.Code) = false from (beq_eq_false_iff_ne.mpr c6)]; rfl)) rfl rfl hr ?_; clear hr a; intro a hr
    refine op_off ((wg hr rfl rfl rfl (b' := (r3 == p1.Code)) (by kernel_rfl)).trans (by rw [show (r3 == p1.Code) = false from (beq_eq_false_iff_ne.mpr c6)]; rfl)) rfl rfl hr ?_; clear hr a; intro a hr
    refine op_val (wn rfl) rfl rfl hr (v := .bool false) (rp_f (b := (r3 == p1.Code)) rfl (by kernel_rfl) (beq_eq_false_iff_ne.mpr c6) (by kernel_rfl)) ?_; clear hr a; intro a hr
    refine ov hr (.bool false) (by kernel_rfl) ?_; clear hr a; intro a hr
    refine wpList_nil ?_
    refine then_normal ?_
    refine wp_ret ?_
    refine end_ret1 (v := .bool false) rfl hr (by kernel_rfl) ?_
    replace h : Fit z (sepL (L)) _ := h.sel 2 [] (by kernel_rfl) (by kernel_rfl)
    replace H := ej1 H; subst H
    exact ⟨rfl, h⟩

/-- (*plunder/cells.Arena).Who -/
def cells_Arena_Who (p0 : T_cells_Arena) (p1 : Int) : Option (T_cells_Arena) :=
  some ({ p0 with actor := p1 })
set_option maxRecDepth 100000 in
set_option maxHeartbeats 4000000 in
theorem cells_Arena_Who_ok {z w : World} {L : List HProp} {p0 : T_cells_Arena} {p1 : Int} {B0 : Nat} {ca1 : Option Addr} {cc2 : Nat} {ca3 : Option Addr} {cc4 : Nat} {q0 : T_cells_Arena} (H : cells_Arena_Who p0 p1 = some q0) (h : Fit z (sepL (ob103 B0 p0 ca1 cc2 ca3 cc4 :: ro2 ca1 cc2 p0.cell :: ro96 ca3 cc4 p0.log :: L)) w)  :
    Calls Try.prog 39 #[.pointer (some ⟨B0, 0, none⟩), .int .i64 p1] w fun e w => ∃ caq0_1 : Option Addr, ∃ ccq0_2 : Nat, ∃ caq0_3 : Option Addr, ∃ ccq0_4 : Nat, e = .returned (.tuple #[]) ∧ Fit z (sepL (ob103 B0 q0 caq0_1 ccq0_2 caq0_3 ccq0_4 :: ro2 caq0_1 ccq0_2 q0.cell :: ro96 caq0_3 ccq0_4 q0.log :: L)) w := by
  unfold cells_Arena_Who at H
  refine enter Try.func39 rfl 10 rfl rfl [(0, .pointer (some ⟨B0, 0, none⟩)), (1, .int .i64 p1)] ⟨rfl, rfl, trivial⟩ ?_
  intro j a hr
  refine wp_seq ?_
  refine wp_region_lit ?_
  refine ovs [4, 5] [.pointer (some ⟨B0, 0, none⟩), .bool true] hr ⟨rfl, rfl⟩ (by kernel_rfl) ?_; clear hr a; intro a hr
  refine wpList_nil ?_
  refine then_normal ?_
  refine cond_tt hr (b := true) rfl ?_
  refine wp_region_lit ?_
  refine ovs [6, 7, 8, 9] [.pointer (some ⟨B0, 0, none⟩), .int .i64 p1, .pointer (some ⟨B0, 0, none⟩), .pointer (some ⟨B0, 4, none⟩)] hr ⟨rfl, rfl⟩ (by kernel_rfl) ?_; clear hr a; intro a hr
  refine op_store (wn rfl) rfl hr rfl (by kernel_rfl) (by kernel_rfl) (v := .int .i64 p1) rfl rfl (by kernel_rfl) h (i := 4) rfl ?_; clear h; intro w h
  refine wpList_nil ?_
  replace h : Fit z (sepL (pts B0 (.cells #[.int .i64 p0.ledger_size, .int .i64 p0.ledger_mark, .slice ca1 p0.cell.length cc2, .slice ca3 p0.log.length cc4, .int .i64 p1, .bool p0.watched] 103) :: ro2 ca1 cc2 p0.cell :: ro96 ca3 cc4 p0.log :: L)) _ := h
  refine end_norm0 rfl hr ?_
  replace H := ej1 H; subst H
  exact ⟨ca1, cc2, ca3, cc4, rfl, h⟩

/-- (plunder/frames.Table).next -/
def frames_Table__next (p0 : T_frames_Table) : Option (Int) :=
  some p0.Base
set_option maxRecDepth 100000 in
set_option maxHeartbeats 4000000 in
theorem frames_Table__next_ok {z w : World} {L : List HProp} {p0 : T_frames_Table} {r0 : Int} (H : frames_Table__next p0 = some r0) (h : Fit z (sepL (L)) w)  :
    Calls Try.prog 98 #[.agg #[.int .i64 p0.Base, .int .i64 p0.Frames]] w fun e w => e = .returned (.int .i64 r0) ∧ Fit z (sepL (L)) w := by
  unfold frames_Table__next at H
  refine enter Try.func98 rfl 5 rfl rfl [(0, .agg #[.int .i64 p0.Base, .int .i64 p0.Frames])] ⟨rfl, trivial⟩ ?_
  intro j a hr
  refine wp_seq ?_
  refine wp_region_lit ?_
  refine op_new (wn rfl) rfl rfl hr h (vf := fun b => .pointer (some ⟨b, 0, none⟩)) (cs := #[.int .i64 p0.Base, .int .i64 p0.Frames]) (T := 39) (by kernel_rfl) ?_; clear h hr a; intro b1 w a h hr
  refine ov hr (.int .i64 0) (by kernel_rfl) ?_; clear hr a; intro a hr
  refine wpList_nil ?_
  refine then_normal ?_
  refine wp_seq ?_
  refine wp_region_lit ?_
  refine ov hr (.pointer (some ⟨b1, 0, none⟩)) (by kernel_rfl) ?_; clear hr a; intro a hr
  refine op_val (wn rfl) rfl rfl hr (v := .int .i64 p0.Base) (rl rfl (by kernel_rfl) (by kernel_rfl) (h.cell 0 rfl)) ?_; clear hr a; intro a hr
  refine ov hr (.int .i64 p0.Base) (by kernel_rfl) ?_; clear hr a; intro a hr
  refine wpList_nil ?_
  refine then_normal ?_
  refine wp_ret ?_
  refine end_ret1 (v := .int .i64 p0.Base) rfl hr (by kernel_rfl) ?_
  replace h : Fit z (sepL (L)) _ := h.sel 1 [] (by kernel_rfl) (by kernel_rfl)
  replace H := ej1 H; subst H
  exact ⟨rfl, h⟩

/-- (*plunder/cells.Arena).Add -/
def cells_Arena_Add (p0 : T_cells_Arena) (p1 : Int) (p2 : Int) : Option (Int × Int × T_cells_Arena) :=
  ob1 (cells_Arena_outside p0 p1) (fun r5 => (if r5 = true then some (0, 20, p0) else if inr_ p1 p0.cell.length then if inr_ p1 (p0.cell.set p1.toNat (wi ((at_ p0.cell p1.toNat) + p2))).length then ob1 (cells_Arena_note ({ p0 with cell := p0.cell.set p1.toNat (wi ((at_ p0.cell p1.toNat) + p2)) }) 3 p1 p2 (wi ((at_ p0.cell p1.toNat) + p2)) true) (fun S11 => if inr_ p1 S11.cell.length then some ((at_ S11.cell p1.toNat), 0, S11) else none) else none else none))
set_option maxRecDepth 100000 in
set_option maxHeartbeats 4000000 in
theorem cells_Arena_Add_ok {z w : World} {L : List HProp} {p0 : T_cells_Arena} {p1 : Int} {p2 : Int} {B0 : Nat} {ca1 : Option Addr} {cc2 : Nat} {ca3 : Option Addr} {cc4 : Nat} {r0 : Int} {r1 : Int} {q0 : T_cells_Arena} (H : cells_Arena_Add p0 p1 p2 = some (r0, r1, q0)) (h : Fit z (sepL (ob103 B0 p0 ca1 cc2 ca3 cc4 :: ro2 ca1 cc2 p0.cell :: ro96 ca3 cc4 p0.log :: L)) w)  :
    Calls Try.prog 122 #[.pointer (some ⟨B0, 0, none⟩), .int .i64 p1, .int .i64 p2] w fun e w => ∃ caq0_1 : Option Addr, ∃ ccq0_2 : Nat, ∃ caq0_3 : Option Addr, ∃ ccq0_4 : Nat, e = .returned (.tuple #[.int .i64 r0, .int .i64 r1]) ∧ Fit z (sepL (ob103 B0 q0 caq0_1 ccq0_2 caq0_3 ccq0_4 :: ro2 caq0_1 ccq0_2 q0.cell :: ro96 caq0_3 ccq0_4 q0.log :: L)) w := by
  unfold cells_Arena_Add at H
  refine enter Try.func122 rfl 39 rfl rfl [(0, .pointer (some ⟨B0, 0, none⟩)), (1, .int .i64 p1), (2, .int .i64 p2)] ⟨rfl, rfl, rfl, trivial⟩ ?_
  intro j a hr
  refine wp_seq ?_
  refine wp_region_lit ?_
  refine ovs [6, 7] [.int .i64 0, .int .i64 0] hr ⟨rfl, rfl⟩ (by kernel_rfl) ?_; clear hr a; intro a hr
  refine wpList_nil ?_
  refine then_normal ?_
  refine wp_seq ?_
  refine wp_seq ?_
  refine wp_region_lit ?_
  replace H := bd1 H; obtain ⟨r5, e6, H⟩ := H
  refine ovs [8, 9] [.pointer (some ⟨B0, 0, none⟩), .int .i64 p1] hr ⟨rfl, rfl⟩ (by kernel_rfl) ?_; clear hr a; intro a hr
  have hc := cells_Arena_outside_ok (H := e6) (h := h)
  refine op_call (wn rfl) rfl rfl hr (f := 126) (args := #[.pointer (some ⟨B0, 0, none⟩), .int .i64 p1]) (by kernel_rfl) hc ?_; clear hc h
  rintro _ w ⟨rfl, h⟩; refine ⟨_, rfl, ?_⟩
  clear hr a; intro a hr
  refine wpList_nil ?_
  refine then_normal ?_
  by_cases c7 : r5 = true
  ·
    replace H := ifT c7 H
    refine cond_tt hr (b := r5) (c7) ?_
    refine wp_seq ?_
    refine wp_region_lit ?_
    refine ovs [6, 7] [.int .i64 0, .int .i64 20] hr ⟨rfl, rfl⟩ (by kernel_rfl) ?_; clear hr a; intro a hr
    refine wpList_nil ?_
    refine then_normal ?_
    refine wp_ret ?_
    refine then_ret ?_
    refine end_ret2 (v := .int .i64 0) (v' := .int .i64 20) rfl hr (by kernel_rfl) (by kernel_rfl) ?_
    replace H := ej3 H; obtain ⟨rfl, rfl, rfl⟩ := H
    exact ⟨ca1, cc2, ca3, cc4, rfl, h⟩
  ·
    replace H := ifF c7 H
    refine cond_ff hr (b := r5) (bF c7) ?_
    refine wp_skip ?_
    refine then_normal ?_
    refine wp_seq ?_
    refine wp_region_lit ?_
    refine ovs [11, 12, 13] [.pointer (some ⟨B0, 0, none⟩), .pointer (some ⟨B0, 0, none⟩), .pointer (some ⟨B0, 2, none⟩)] hr ⟨rfl, rfl⟩ (by kernel_rfl) ?_; clear hr a; intro a hr
    refine op_val (wn rfl) rfl rfl hr (v := .slice ca1 p0.cell.length cc2) (rl rfl (by kernel_rfl) (by kernel_rfl) (h.cell 2 rfl)) ?_; clear hr a; intro a hr
    replace H := gd H; obtain ⟨c8, H⟩ := H
    refine ov hr (.int .i64 p1) (by kernel_rfl) ?_; clear hr a; intro a hr
    refine op_val (wn rfl) rfl rfl hr (v := .pointer (some ⟨blk ca1, p1.toNat * 1, none⟩)) (ri_row (k := .i64) (E := 2) rfl (by kernel_rfl) (by kernel_rfl) (by kernel_rfl) (by kernel_rfl) (h.pick 1) c8) ?_; clear hr a; intro a hr
    refine op_val (wn rfl) rfl rfl hr (v := .int .i64 (at_ p0.cell p1.toNat)) (rl rfl (by kernel_rfl) (by kernel_rfl) ((h.pick 1).row_cell encZ_i64_ok (f := 0) (at_ok c8) rfl)) ?_; clear hr a; intro a hr
    refine ovs [18, 19] [.int .i64 p2, .int .i64 (wi ((at_ p0.cell p1.toNat) + p2))] hr ⟨rfl, rfl⟩ (by kernel_rfl) ?_; clear hr a; intro a hr
    refine op_val (wn rfl) rfl rfl hr (v := .pointer (some ⟨blk ca1, p1.toNat * 1, none⟩)) (ri_row (k := .i64) (E := 2) rfl (by kernel_rfl) (by kernel_rfl) (by kernel_rfl) (by kernel_rfl) (h.pick 1) c8) ?_; clear hr a; intro a hr
    replace h : Fit z (sepL (ro2 ca1 cc2 p0.cell :: ob103 B0 p0 ca1 cc2 ca3 cc4 :: ro96 ca3 cc4 p0.log :: L)) _ := h.sel 3 [1, 0, 2] (by kernel_rfl) (by kernel_rfl)
    refine op_store_row (wn rfl) rfl hr rfl (by kernel_rfl) (by kernel_rfl) (v := .int .i64 (wi ((at_ p0.cell p1.toNat) + p2))) rfl rfl (by kernel_rfl) encZ_i64_ok h (i := p1.toNat) (f := 0) (p := (at_ p0.cell p1.toNat)) (q := (wi ((at_ p0.cell p1.toNat) + p2))) (at_ok c8) (by decide) rfl ?_; clear h; intro w h
    replace h : Fit z (sepL (rowOf 2 1 encZ_i64 (.slice ca1 p0.cell.length cc2) (p0.cell.set p1.toNat (wi ((at_ p0.cell p1.toNat) + p2))) :: ob103 B0 p0 ca1 cc2 ca3 cc4 :: ro96 ca3 cc4 p0.log :: L)) _ := h
    refine wpList_nil ?_
    refine then_normal ?_
    refine wp_seq ?_
    refine wp_region_lit ?_
    refine ovs [21, 22, 23, 24, 25, 26] [.pointer (some ⟨B0, 0, none⟩), .int .i64 p1, .int .i64 p2, .pointer (some ⟨B0, 0, none⟩), .pointer (some ⟨B0, 0, none⟩), .pointer (some ⟨B0, 2, none⟩)] hr ⟨rfl, rfl⟩ (by kernel_rfl) ?_; clear hr a; intro a hr
    refine op_val (wn rfl) rfl rfl hr (v := .slice ca1 p0.cell.length cc2) (rl rfl (by kernel_rfl) (by kernel_rfl) ((h.pick 1).cell 2 rfl)) ?_; clear hr a; intro a hr
    replace H := gd H; obtain ⟨c9, H⟩ := H
    refine ov hr (.int .i64 p1) (by kernel_rfl) ?_; clear hr a; intro a hr
    refine op_val (wn rfl) rfl rfl hr (v := .pointer (some ⟨blk ca1, p1.toNat * 1, none⟩)) (ri_row (k := .i64) (E := 2) rfl (by kernel_rfl) (by kernel_rfl) (by kernel_rfl) (by kernel_rfl) h c9) ?_; clear hr a; intro a hr
    refine op_val (wn rfl) rfl rfl hr (v := .int .i64 (wi ((at_ p0.cell p1.toNat) + p2))) (rl rfl (by kernel_rfl) (by kernel_rfl) (h.row_cell encZ_i64_ok (f := 0) (get_set ((at_okL (by simpa [inr_] using c9)))) rfl)) ?_; clear hr a; intro a hr
    have hn9 := h.row_n
    replace h : Fit z (sepL (ro2 ca1 cc2 (p0.cell.set p1.toNat (wi ((at_ p0.cell p1.toNat) + p2))) :: pts B0 (.cells #[.int .i64 p0.ledger_size, .int .i64 p0.ledger_mark, .slice ca1 ((p0.cell.set p1.toNat (wi ((at_ p0.cell p1.toNat) + p2))).length) cc2, .slice ca3 p0.log.length cc4, .int .i64 p0.actor, .bool p0.watched] 103) :: ro96 ca3 cc4 p0.log :: L)) w := (congrArg (fun q_ : Nat => Fit z (sepL (rowOf 2 1 encZ_i64 (.slice ca1 q_ cc2) (p0.cell.set p1.toNat (wi ((at_ p0.cell p1.toNat) + p2))) :: pts B0 (.cells #[.int .i64 p0.ledger_size, .int .i64 p0.ledger_mark, .slice ca1 q_ cc2, .slice ca3 p0.log.length cc4, .int .i64 p0.actor, .bool p0.watched] 103) :: ro96 ca3 cc4 p0.log :: L)) w) h.row_n).mp h
    replace H := bd1 H; obtain ⟨S11, e12, H⟩ := H
    replace h : Fit z (sepL (pts B0 (.cells #[.int .i64 p0.ledger_size, .int .i64 p0.ledger_mark, .slice ca1 ((p0.cell.set p1.toNat (wi ((at_ p0.cell p1.toNat) + p2))).length) cc2, .slice ca3 p0.log.length cc4, .int .i64 p0.actor, .bool p0.watched] 103) :: ro2 ca1 cc2 (p0.cell.set p1.toNat (wi ((at_ p0.cell p1.toNat) + p2))) :: ro96 ca3 cc4 p0.log :: L)) _ := h.sel 3 [1, 0, 2] (by kernel_rfl) (by kernel_rfl)
    have hc := cells_Arena_note_ok (H := e12) (h := h)
    refine op_call (wn rfl) rfl rfl hr (f := 63) (args := #[.pointer (some ⟨B0, 0, none⟩), .int .i64 3, .int .i64 p1, .int .i64 p2, .int .i64 (wi ((at_ p0.cell p1.toNat) + p2)), .bool true]) (by kernel_rfl) hc ?_; clear hc h
    rintro _ w ⟨caq13, ccq14, caq15, ccq16, rfl, h⟩; refine ⟨_, rfl, ?_⟩
    clear hr a; intro a hr
    refine wpList_nil ?_
    refine then_normal ?_
    refine wp_seq ?_
    refine wp_region_lit ?_
    refine ovs [32, 33, 34] [.pointer (some ⟨B0, 0, none⟩), .pointer (some ⟨B0, 0, none⟩), .pointer (some ⟨B0, 2, none⟩)] hr ⟨rfl, rfl⟩ (by kernel_rfl) ?_; clear hr a; intro a hr
    refine op_val (wn rfl) rfl rfl hr (v := .slice caq13 S11.cell.length ccq14) (rl rfl (by kernel_rfl) (by kernel_rfl) (h.cell 2 rfl)) ?_; clear hr a; intro a hr
    replace H := gd H; obtain ⟨c17, H⟩ := H
    refine ov hr (.int .i64 p1) (by kernel_rfl) ?_; clear hr a; intro a hr
    refine op_val (wn rfl) rfl rfl hr (v := .pointer (some ⟨blk caq13, p1.toNat * 1, none⟩)) (ri_row (k := .i64) (E := 2) rfl (by kernel_rfl) (by kernel_rfl) (by kernel_rfl) (by kernel_rfl) (h.pick 1) c17) ?_; clear hr a; intro a hr
    refine op_val (wn rfl) rfl rfl hr (v := .int .i64 (at_ S11.cell p1.toNat)) (rl rfl (by kernel_rfl) (by kernel_rfl) ((h.pick 1).row_cell encZ_i64_ok (f := 0) (at_ok c17) rfl)) ?_; clear hr a; intro a hr
    refine ovs [6, 7] [.int .i64 (at_ S11.cell p1.toNat), .int .i64 0] hr ⟨rfl, rfl⟩ (by kernel_rfl) ?_; clear hr a; intro a hr
    refine wpList_nil ?_
    refine then_normal ?_
    refine wp_ret ?_
    refine end_ret2 (v := .int .i64 (at_ S11.cell p1.toNat)) (v' := .int .i64 0) rfl hr (by kernel_rfl) (by kernel_rfl) ?_
    replace H := ej3 H; obtain ⟨rfl, rfl, rfl⟩ := H
    exact ⟨caq13, ccq14, caq15, ccq16, rfl, h⟩

/-- (*plunder/frames.head).end -/
def frames_head_end (p0 : T_frames_Op) (p1 : Int) (p2 : Int) : Option (T_frames_Op) :=
  some ({ p0 with head_stands := 0, head_code := p1, head_v := p2 })
set_option maxRecDepth 100000 in
set_option maxHeartbeats 4000000 in
theorem frames_head_end_ok {z w : World} {L : List HProp} {p0 : T_frames_Op} {p1 : Int} {p2 : Int} {B0 : Nat} {q0 : T_frames_Op} (H : frames_head_end p0 p1 p2 = some q0) (h : Fit z (sepL (ob50 B0 p0 :: L)) w)  :
    Calls Try.prog 56 #[.pointer (some ⟨B0, 0, none⟩), .int .i64 p1, .int .i64 p2] w fun e w => e = .returned (.tuple #[]) ∧ Fit z (sepL (ob50 B0 q0 :: L)) w := by
  unfold frames_head_end at H
  refine enter Try.func56 rfl 17 rfl rfl [(0, .pointer (some ⟨B0, 0, none⟩)), (1, .int .i64 p1), (2, .int .i64 p2)] ⟨rfl, rfl, rfl, trivial⟩ ?_
  intro j a hr
  refine wp_seq ?_
  refine wp_region_lit ?_
  refine ovs [6, 7, 8] [.pointer (some ⟨B0, 0, none⟩), .pointer (some ⟨B0, 0, none⟩), .pointer (some ⟨B0, 3, none⟩)] hr ⟨rfl, rfl⟩ (by kernel_rfl) ?_; clear hr a; intro a hr
  refine op_store (wn rfl) rfl hr rfl (by kernel_rfl) (by kernel_rfl) (v := .int .i64 0) rfl rfl (by kernel_rfl) h (i := 3) rfl ?_; clear h; intro w h
  refine wpList_nil ?_
  replace h : Fit z (sepL (pts B0 (.cells #[.int .i64 p0.head_t_Base, .int .i64 p0.head_t_Frames, .int .i64 p0.head_frame, .int .i64 0, .int .i64 p0.head_code, .int .i64 p0.head_v, .int .i64 p0.kind, .int .i64 p0.slot, .int .i64 p0.give] 50) :: L)) _ := h
  refine then_normal ?_
  refine wp_seq ?_
  refine wp_region_lit ?_
  refine ovs [9, 10, 11, 12] [.pointer (some ⟨B0, 0, none⟩), .int .i64 p1, .pointer (some ⟨B0, 0, none⟩), .pointer (some ⟨B0, 4, none⟩)] hr ⟨rfl, rfl⟩ (by kernel_rfl) ?_; clear hr a; intro a hr
  refine op_store (wn rfl) rfl hr rfl (by kernel_rfl) (by kernel_rfl) (v := .int .i64 p1) rfl rfl (by kernel_rfl) h (i := 4) rfl ?_; clear h; intro w h
  refine wpList_nil ?_
  replace h : Fit z (sepL (pts B0 (.cells #[.int .i64 p0.head_t_Base, .int .i64 p0.head_t_Frames, .int .i64 p0.head_frame, .int .i64 0, .int .i64 p1, .int .i64 p0.head_v, .int .i64 p0.kind, .int .i64 p0.slot, .int .i64 p0.give] 50) :: L)) _ := h
  refine then_normal ?_
  refine wp_region_lit ?_
  refine ovs [13, 14, 15, 16] [.pointer (some ⟨B0, 0, none⟩), .int .i64 p2, .pointer (some ⟨B0, 0, none⟩), .pointer (some ⟨B0, 5, none⟩)] hr ⟨rfl, rfl⟩ (by kernel_rfl) ?_; clear hr a; intro a hr
  refine op_store (wn rfl) rfl hr rfl (by kernel_rfl) (by kernel_rfl) (v := .int .i64 p2) rfl rfl (by kernel_rfl) h (i := 5) rfl ?_; clear h; intro w h
  refine wpList_nil ?_
  replace h : Fit z (sepL (pts B0 (.cells #[.int .i64 p0.head_t_Base, .int .i64 p0.head_t_Frames, .int .i64 p0.head_frame, .int .i64 0, .int .i64 p1, .int .i64 p2, .int .i64 p0.kind, .int .i64 p0.slot, .int .i64 p0.give] 50) :: L)) _ := h
  refine end_norm0 rfl hr ?_
  replace H := ej1 H; subst H
  exact ⟨rfl, h⟩

/-- (*plunder/frames.Op).alloc -/
def frames_Op_alloc_iface (p0 : T_frames_Op) (p1 : T_cells_Arena) : Option (Int × T_frames_Op × T_cells_Arena) :=
  ob1 (frames_Table__next (⟨p0.head_t_Base, p0.head_t_Frames⟩ : T_frames_Table)) (fun r5 => ob3 (cells_Arena_Add p1 r5 1) (fun r7 r8 S9 => (if r8 = (0 : Int) then ob1 ((if r7 ≥ (1 : Int) then some (decide (r7 ≤ p0.head_t_Frames)) else some false)) (fun g16 => (if g16 = true then ob1 (frames_head_end p0 4 (wi (r7 - (1 : Int)))) (fun S21 => some (0, S21, S9)) else ob1 (frames_head_end p0 3 0) (fun S23 => some (0, S23, S9)))) else some (r8, p0, S9))))
set_option maxRecDepth 100000 in
set_option maxHeartbeats 4000000 in
theorem frames_Op_alloc_iface_ok {z w : World} {L : List HProp} {p0 : T_frames_Op} {p1 : T_cells_Arena} {B0 : Nat} {B1 : Nat} {ca1 : Option Addr} {cc2 : Nat} {ca3 : Option Addr} {cc4 : Nat} {r0 : Int} {q0 : T_frames_Op} {q1 : T_cells_Arena} (H : frames_Op_alloc_iface p0 p1 = some (r0, q0, q1)) (h : Fit z (sepL (ob50 B0 p0 :: ob103 B1 p1 ca1 cc2 ca3 cc4 :: ro2 ca1 cc2 p1.cell :: ro96 ca3 cc4 p1.log :: L)) w)  :
    Calls Try.prog 81 #[.pointer (some ⟨B0, 0, none⟩), .iface 26 (.pointer (some ⟨B1, 0, none⟩))] w fun e w => ∃ caq1_1 : Option Addr, ∃ ccq1_2 : Nat, ∃ caq1_3 : Option Addr, ∃ ccq1_4 : Nat, e = .returned (.int .i64 r0) ∧ Fit z (sepL (ob50 B0 q0 :: ob103 B1 q1 caq1_1 ccq1_2 caq1_3 ccq1_4 :: ro2 caq1_1 ccq1_2 q1.cell :: ro96 caq1_3 ccq1_4 q1.log :: L)) w := by
  unfold frames_Op_alloc_iface at H
  refine enter Try.func81 rfl 46 rfl rfl [(0, .pointer (some ⟨B0, 0, none⟩)), (1, .iface 26 (.pointer (some ⟨B1, 0, none⟩)))] ⟨rfl, rfl, trivial⟩ ?_
  intro j a hr
  refine wp_seq ?_
  refine wp_region_lit ?_
  refine ov hr (.int .i64 0) (by kernel_rfl) ?_; clear hr a; intro a hr
  refine wpList_nil ?_
  refine then_normal ?_
  refine wp_seq ?_
  replace H := bd1 H; obtain ⟨r5, e6, H⟩ := H
  replace H := bd3 H; obtain ⟨r7, r8, S9, e10, H⟩ := H
  refine reg_E (fun w => heldC w B0 0 [.int .i64 p0.head_t_Base, .int .i64 p0.head_t_Frames] ∧ True) [2, 3, 4, 6, 7, 8] h (by kernel_rfl) ?_; intro w h
  change wpAnyE _ _ _ _ _ _ 16 (Array.replicate 16 false) a w
  have hgo : ∀ w w', CellsGo w w' → (heldC w B0 0 [.int .i64 p0.head_t_Base, .int .i64 p0.head_t_Frames] ∧ True) → heldC w' B0 0 [.int .i64 p0.head_t_Base, .int .i64 p0.head_t_Frames] ∧ True := fun w w' g hD => ⟨heldC_go _ _ _ _ _ g hD.1, trivial⟩
  refine ev 15 0 rfl (by kernel_rfl) (wn rfl) hr (.iface 26 (.pointer (some ⟨B1, 0, none⟩))) (fun w => by kernel_rfl) ?_; clear hr a; intro a hr
  refine ev 14 1 rfl (by kernel_rfl) (wn rfl) hr (.pointer (some ⟨B0, 0, none⟩)) (fun w => by kernel_rfl) ?_; clear hr a; intro a hr
  refine evD hgo ⟨⟨h.cell 0 rfl, h.cell 1 rfl, trivial⟩, trivial⟩ 13 2 rfl (by kernel_rfl) (wn rfl) hr (.pointer (some ⟨B0, 0, none⟩)) (fun w => by kernel_rfl) ?_; clear hr a; intro a hr
  refine evD hgo ⟨⟨h.cell 0 rfl, h.cell 1 rfl, trivial⟩, trivial⟩ 12 3 rfl (by kernel_rfl) (wn rfl) hr (.pointer (some ⟨B0, 0, none⟩)) (fun w => by kernel_rfl) ?_; clear hr a; intro a hr
  refine evD hgo ⟨⟨h.cell 0 rfl, h.cell 1 rfl, trivial⟩, trivial⟩ 11 4 rfl (by kernel_rfl) (wn rfl) hr (.pointer (some ⟨B0, 0, none⟩)) (fun w => by kernel_rfl) ?_; clear hr a; intro a hr
  refine evD hgo ⟨⟨h.cell 0 rfl, h.cell 1 rfl, trivial⟩, trivial⟩ 10 7 rfl (by kernel_rfl) (wn rfl) hr (.func (.method "Add") #[.iface 26 (.pointer (some ⟨B1, 0, none⟩))] #[]) (fun w => by kernel_rfl) ?_; clear hr a; intro a hr
  refine evD hgo ⟨⟨h.cell 0 rfl, h.cell 1 rfl, trivial⟩, trivial⟩ 9 8 rfl (by kernel_rfl) (wn rfl) hr (.func (.method "Add") #[.iface 26 (.pointer (some ⟨B1, 0, none⟩))] #[]) (fun w => by kernel_rfl) ?_; clear hr a; intro a hr
  refine ev 8 9 rfl (by kernel_rfl) (wn rfl) hr (.iface 26 (.pointer (some ⟨B1, 0, none⟩))) (fun w => by kernel_rfl) ?_; clear hr a; intro a hr
  refine el [2, 3, 4, 6, 7, 8] (b := B0) (off := 0) (cs := [.int .i64 p0.head_t_Base, .int .i64 p0.head_t_Frames]) (fun _ hk => ⟨hk, fun w hD => hD.1⟩) 7 5 rfl (by kernel_rfl) (wn rfl) hr (.agg #[.int .i64 p0.head_t_Base, .int .i64 p0.head_t_Frames]) ⟨h.cell 0 rfl, h.cell 1 rfl, trivial⟩ (fun w hc => rlm (cs := [.int .i64 p0.head_t_Base, .int .i64 p0.head_t_Frames]) rfl (by kernel_rfl) (by kernel_rfl) (by kernel_rfl) hc) ?_; clear hr a; intro a hr
  refine e_one (fuel := 6) (i := 6) (by kernel_rfl) rfl ?_
  have hc := frames_Table__next_ok (H := e6) (h := h)
  refine op_call (wn rfl) rfl rfl hr (f := 98) (args := #[.agg #[.int .i64 p0.head_t_Base, .int .i64 p0.head_t_Frames]]) (by kernel_rfl) hc ?_; clear hc h
  rintro _ w ⟨rfl, h⟩; refine ⟨_, rfl, ?_⟩
  clear hr a; intro a hr
  refine wpList_nil ?_; refine then_normal ?_
  refine ⟨fun _ => ⟨⟨h.cell 0 rfl, h.cell 1 rfl, trivial⟩, trivial⟩, ?_⟩
  refine e_one (fuel := 5) (i := 10) (by kernel_rfl) rfl ?_
  replace h : Fit z (sepL (ob103 B1 p1 ca1 cc2 ca3 cc4 :: ro2 ca1 cc2 p1.cell :: ro96 ca3 cc4 p1.log :: ob50 B0 p0 :: L)) _ := h.sel 4 [1, 2, 3, 0] (by kernel_rfl) (by kernel_rfl)
  have hc := cells_Arena_Add_ok (H := e10) (h := h)
  refine op_call (wn rfl) rfl rfl hr (f := 122) (args := #[.pointer (some ⟨B1, 0, none⟩), .int .i64 r5, .int .i64 1]) (by kernel_rfl) hc ?_; clear hc h
  rintro _ w ⟨caq11, ccq12, caq13, ccq14, rfl, h⟩; refine ⟨_, rfl, ?_⟩
  clear hr a; intro a hr
  refine wpList_nil ?_; refine then_normal ?_
  refine ⟨fun hE => absurd hE (by decide), ?_⟩
  refine ev 4 11 rfl (by kernel_rfl) (wn rfl) hr (.tuple #[.int .i64 r7, .int .i64 r8]) (fun w => by kernel_rfl) ?_; clear hr a; intro a hr
  refine ev 3 12 rfl (by kernel_rfl) (wn rfl) hr (.int .i64 r7) (fun w => by kernel_rfl) ?_; clear hr a; intro a hr
  refine ev 2 13 rfl (by kernel_rfl) (wn rfl) hr (.int .i64 r8) (fun w => by kernel_rfl) ?_; clear hr a; intro a hr
  refine ev 1 14 rfl (by kernel_rfl) (wn rfl) hr (.int .i64 r7) (fun w => by kernel_rfl) ?_; clear hr a; intro a hr
  refine ev 0 15 rfl (by kernel_rfl) (wn rfl) hr (.int .i64 r8) (fun w => by kernel_rfl) ?_; clear hr a; intro a hr
  refine e_end (by kernel_rfl) ?_
  refine then_normal ?_
  refine wp_seq ?_
  refine wp_seq ?_
  refine wp_region_lit ?_
  refine ovs [21, 22] [.int .i64 r8, .bool (r8 != (0 : Int))] hr ⟨rfl, rfl⟩ (by kernel_rfl) ?_; clear hr a; intro a hr
  refine wpList_nil ?_
  refine then_normal ?_
  by_cases c15 : r8 = (0 : Int)
  ·
    replace H := ifT c15 H
    refine cond_ff hr (b := (r8 != (0 : Int))) (bne_eq_false_iff_eq.mpr c15) ?_
    refine wp_skip ?_
    refine then_normal ?_
    refine wp_seq ?_
    replace H := kd1 H; obtain ⟨o18, H, hK17⟩ := H
    refine cut_rule (β := Unit) (fun _ a w => ∃ g16 : Bool, g16 = o18 ∧ ∃ j, Rep 46 (lk [(0, .pointer (some ⟨B0, 0, none⟩)), (5, .int .i64 r7), (35, .bool g16)] j) a ∧ Fit z (sepL (ob50 B0 p0 :: ob103 B1 S9 caq11 ccq12 caq13 ccq14 :: ro2 caq11 ccq12 S9.cell :: ro96 caq13 ccq14 S9.log :: L)) w) ?_ ?_
    ·
      refine wp_region_lit ?_
      refine ovs [24, 25, 26] [.int .i64 r7, .bool (decide (r7 ≥ (1 : Int))), .bool (decide (r7 ≥ (1 : Int)))] hr ⟨rfl, rfl⟩ (by kernel_rfl) ?_; clear hr a; intro a hr
      by_cases c19 : r7 ≥ (1 : Int)
      ·
        replace H := ifT c19 H
        refine op_val ((wg hr rfl rfl rfl (b' := (decide (r7 ≥ (1 : Int)))) (by kernel_rfl)).trans (by rw [show (decide (r7 ≥ (1 : Int))) = true from (decide_eq_true c19)]; rfl)) rfl rfl hr (v := .int .i64 r7) (by kernel_rfl) ?_; clear hr a; intro a hr
        refine op_val ((wg hr rfl rfl rfl (b' := (decide (r7 ≥ (1 : Int)))) (by kernel_rfl)).trans (by rw [show (decide (r7 ≥ (1 : Int))) = true from (decide_eq_true c19)]; rfl)) rfl rfl hr (v := .pointer (some ⟨B0, 0, none⟩)) (by kernel_rfl) ?_; clear hr a; intro a hr
        refine op_val ((wg hr rfl rfl rfl (b' := (decide (r7 ≥ (1 : Int)))) (by kernel_rfl)).trans (by rw [show (decide (r7 ≥ (1 : Int))) = true from (decide_eq_true c19)]; rfl)) rfl rfl hr (v := .pointer (some ⟨B0, 0, none⟩)) (by kernel_rfl) ?_; clear hr a; intro a hr
        refine op_val ((wg hr rfl rfl rfl (b' := (decide (r7 ≥ (1 : Int)))) (by kernel_rfl)).trans (by rw [show (decide (r7 ≥ (1 : Int))) = true from (decide_eq_true c19)]; rfl)) rfl rfl hr (v := .pointer (some ⟨B0, 0, none⟩)) (by kernel_rfl) ?_; clear hr a; intro a hr
        refine op_val ((wg hr rfl rfl rfl (b' := (decide (r7 ≥ (1 : Int)))) (by kernel_rfl)).trans (by rw [show (decide (r7 ≥ (1 : Int))) = true from (decide_eq_true c19)]; rfl)) rfl rfl hr (v := .pointer (some ⟨B0, 0, none⟩)) (by kernel_rfl) ?_; clear hr a; intro a hr
        refine op_val ((wg hr rfl rfl rfl (b' := (decide (r7 ≥ (1 : Int)))) (by kernel_rfl)).trans (by rw [show (decide (r7 ≥ (1 : Int))) = true from (decide_eq_true c19)]; rfl)) rfl rfl hr (v := .pointer (some ⟨B0, 1, none⟩)) (by kernel_rfl) ?_; clear hr a; intro a hr
        refine op_val ((wg hr rfl rfl rfl (b' := (decide (r7 ≥ (1 : Int)))) (by kernel_rfl)).trans (by rw [show (decide (r7 ≥ (1 : Int))) = true from (decide_eq_true c19)]; rfl)) rfl rfl hr (v := .int .i64 p0.head_t_Frames) (rl rfl (by kernel_rfl) (by kernel_rfl) ((h.pick 3).cell 1 rfl)) ?_; clear hr a; intro a hr
        refine op_val ((wg hr rfl rfl rfl (b' := (decide (r7 ≥ (1 : Int)))) (by kernel_rfl)).trans (by rw [show (decide (r7 ≥ (1 : Int))) = true from (decide_eq_true c19)]; rfl)) rfl rfl hr (v := .bool (decide (r7 ≤ p0.head_t_Frames))) (by kernel_rfl) ?_; clear hr a; intro a hr
        refine op_val (wn rfl) rfl rfl hr (v := .bool (decide (r7 ≤ p0.head_t_Frames))) (rp_t (b := (decide (r7 ≥ (1 : Int)))) rfl (by kernel_rfl) (decide_eq_true c19) (by kernel_rfl)) ?_; clear hr a; intro a hr
        refine wpList_nil ?_
        refine then_normal ?_
        replace hr := hr.fold2 [(0, .pointer (some ⟨B0, 0, none⟩)), (5, .int .i64 r7), (35, .bool (decide (r7 ≤ p0.head_t_Frames)))] (by kernel_rfl); obtain ⟨j, hr⟩ := hr
        replace h : Fit z (sepL (ob50 B0 p0 :: ob103 B1 S9 caq11 ccq12 caq13 ccq14 :: ro2 caq11 ccq12 S9.cell :: ro96 caq13 ccq14 S9.log :: L)) _ := h.sel 4 [3, 0, 1, 2] (by kernel_rfl) (by kernel_rfl)
        exact ⟨(), (decide (r7 ≤ p0.head_t_Frames)), sinj H, j, hr, h⟩
      ·
        replace H := ifF c19 H
        refine op_off ((wg hr rfl rfl rfl (b' := (decide (r7 ≥ (1 : Int)))) (by kernel_rfl)).trans (by rw [show (decide (r7 ≥ (1 : Int))) = false from (decide_eq_false c19)]; rfl)) rfl rfl hr ?_; clear hr a; intro a hr
        refine op_off ((wg hr rfl rfl rfl (b' := (decide (r7 ≥ (1 : Int)))) (by kernel_rfl)).trans (by rw [show (decide (r7 ≥ (1 : Int))) = false from (decide_eq_false c19)]; rfl)) rfl rfl hr ?_; clear hr a; intro a hr
        refine op_off ((wg hr rfl rfl rfl (b' := (decide (r7 ≥ (1 : Int)))) (by kernel_rfl)).trans (by rw [show (decide (r7 ≥ (1 : Int))) = false from (decide_eq_false c19)]; rfl)) rfl rfl hr ?_; clear hr a; intro a hr
        refine op_off ((wg hr rfl rfl rfl (b' := (decide (r7 ≥ (1 : Int)))) (by kernel_rfl)).trans (by rw [show (decide (r7 ≥ (1 : Int))) = false from (decide_eq_false c19)]; rfl)) rfl rfl hr ?_; clear hr a; intro a hr
        refine op_off ((wg hr rfl rfl rfl (b' := (decide (r7 ≥ (1 : Int)))) (by kernel_rfl)).trans (by rw [show (decide (r7 ≥ (1 : Int))) = false from (decide_eq_false c19)]; rfl)) rfl rfl hr ?_; clear hr a; intro a hr
        refine op_off ((wg hr rfl rfl rfl (b' := (decide (r7 ≥ (1 : Int)))) (by kernel_rfl)).trans (by rw [show (decide (r7 ≥ (1 : Int))) = false from (decide_eq_false c19)]; rfl)) rfl rfl hr ?_; clear hr a; intro a hr
        refine op_off ((wg hr rfl rfl rfl (b' := (decide (r7 ≥ (1 : Int)))) (by kernel_rfl)).trans (by rw [show (decide (r7 ≥ (1 : Int))) = false from (decide_eq_false c19)]; rfl)) rfl rfl hr ?_; clear hr a; intro a hr
        refine op_off ((wg hr rfl rfl rfl (b' := (decide (r7 ≥ (1 : Int)))) (by kernel_rfl)).trans (by rw [show (decide (r7 ≥ (1 : Int))) = false from (decide_eq_false c19)]; rfl)) rfl rfl hr ?_; clear hr a; intro a hr
        refine op_val (wn rfl) rfl rfl hr (v := .bool false) (rp_f (b := (decide (r7 ≥ (1 : Int)))) rfl (by kernel_rfl) (decide_eq_false c19) (by kernel_rfl)) ?_; clear hr a; intro a hr
        refine wpList_nil ?_
        refine then_normal ?_
        replace hr := hr.fold2 [(0, .pointer (some ⟨B0, 0, none⟩)), (5, .int .i64 r7), (35, .bool false)] (by kernel_rfl); obtain ⟨j, hr⟩ := hr
        replace h : Fit z (sepL (ob50 B0 p0 :: ob103 B1 S9 caq11 ccq12 caq13 ccq14 :: ro2 caq11 ccq12 S9.cell :: ro96 caq13 ccq14 S9.log :: L)) _ := h.sel 4 [3, 0, 1, 2] (by kernel_rfl) (by kernel_rfl)
        exact ⟨(), false, sinj H, j, hr, h⟩
    clear h hr a; rintro _ a w ⟨g16, rfl, j, hr, h⟩
    replace H := kk1 hK17
    by_cases c20 : g16 = true
    ·
      replace H := ifT c20 H
      refine cond_tt hr (b := g16) (c20) ?_
      refine wp_region_lit ?_
      replace H := bd1 H; obtain ⟨S21, e22, H⟩ := H
      refine ovs [36, 37, 38, 39, 40] [.pointer (some ⟨B0, 0, none⟩), .pointer (some ⟨B0, 0, none⟩), .pointer (some ⟨B0, 0, none⟩), .int .i64 r7, .int .i64 (wi (r7 - (1 : Int)))] hr ⟨rfl, rfl⟩ (by kernel_rfl) ?_; clear hr a; intro a hr
      have hc := frames_head_end_ok (H := e22) (h := h)
      refine op_call (wn rfl) rfl rfl hr (f := 56) (args := #[.pointer (some ⟨B0, 0, none⟩), .int .i64 4, .int .i64 (wi (r7 - (1 : Int)))]) (by kernel_rfl) hc ?_; clear hc h
      rintro _ w ⟨rfl, h⟩; refine ⟨_, rfl, ?_⟩
      clear hr a; intro a hr
      refine wpList_nil ?_
      refine then_normal ?_
      refine wp_seq ?_
      refine wp_region_lit ?_
      refine ov hr (.int .i64 0) (by kernel_rfl) ?_; clear hr a; intro a hr
      refine wpList_nil ?_
      refine then_normal ?_
      refine wp_ret ?_
      refine end_ret1 (v := .int .i64 0) rfl hr (by kernel_rfl) ?_
      replace H := ej3 H; obtain ⟨rfl, rfl, rfl⟩ := H
      exact ⟨caq11, ccq12, caq13, ccq14, rfl, h⟩
    ·
      replace H := ifF c20 H
      refine cond_ff hr (b := g16) (bF c20) ?_
      refine wp_region_lit ?_
      replace H := bd1 H; obtain ⟨S23, e24, H⟩ := H
      refine ovs [42, 43, 44] [.pointer (some ⟨B0, 0, none⟩), .pointer (some ⟨B0, 0, none⟩), .pointer (some ⟨B0, 0, none⟩)] hr ⟨rfl, rfl⟩ (by kernel_rfl) ?_; clear hr a; intro a hr
      have hc := frames_head_end_ok (H := e24) (h := h)
      refine op_call (wn rfl) rfl rfl hr (f := 56) (args := #[.pointer (some ⟨B0, 0, none⟩), .int .i64 3, .int .i64 0]) (by kernel_rfl) hc ?_; clear hc h
      rintro _ w ⟨rfl, h⟩; refine ⟨_, rfl, ?_⟩
      clear hr a; intro a hr
      refine wpList_nil ?_
      refine then_normal ?_
      refine wp_seq ?_
      refine wp_region_lit ?_
      refine ov hr (.int .i64 0) (by kernel_rfl) ?_; clear hr a; intro a hr
      refine wpList_nil ?_
      refine then_normal ?_
      refine wp_ret ?_
      refine end_ret1 (v := .int .i64 0) rfl hr (by kernel_rfl) ?_
      replace H := ej3 H; obtain ⟨rfl, rfl, rfl⟩ := H
      exact ⟨caq11, ccq12, caq13, ccq14, rfl, h⟩
  ·
    replace H := ifF c15 H
    refine cond_tt hr (b := (r8 != (0 : Int))) (bne_iff_ne.mpr c15) ?_
    refine wp_seq ?_
    refine wp_region_lit ?_
    refine ovs [23, 4] [.int .i64 r8, .int .i64 r8] hr ⟨rfl, rfl⟩ (by kernel_rfl) ?_; clear hr a; intro a hr
    refine wpList_nil ?_
    refine then_normal ?_
    refine wp_ret ?_
    refine then_ret ?_
    refine end_ret1 (v := .int .i64 r8) rfl hr (by kernel_rfl) ?_
    replace h : Fit z (sepL (ob50 B0 p0 :: ob103 B1 S9 caq11 ccq12 caq13 ccq14 :: ro2 caq11 ccq12 S9.cell :: ro96 caq13 ccq14 S9.log :: L)) _ := h.sel 4 [3, 0, 1, 2] (by kernel_rfl) (by kernel_rfl)
    replace H := ej3 H; obtain ⟨rfl, rfl, rfl⟩ := H
    exact ⟨caq11, ccq12, caq13, ccq14, rfl, h⟩

/-- (*plunder/frames.Op).fork -/
def frames_Op_fork_iface (p0 : T_frames_Op) (p1 : T_cells_Arena) : Option (Int × T_frames_Op × T_cells_Arena) :=
  ob1 (frames_Table__join (⟨p0.head_t_Base, p0.head_t_Frames⟩ : T_frames_Table) p0.head_frame) (fun r5 => ob3 (cells_Arena_Add p1 r5 1) (fun r7 r8 S9 => (if r8 = (0 : Int) then ob1 (frames_head_end p0 9 r7) (fun S16 => some (r8, S16, S9)) else some (r8, p0, S9))))
set_option maxRecDepth 100000 in
set_option maxHeartbeats 4000000 in
theorem frames_Op_fork_iface_ok {z w : World} {L : List HProp} {p0 : T_frames_Op} {p1 : T_cells_Arena} {B0 : Nat} {B1 : Nat} {ca1 : Option Addr} {cc2 : Nat} {ca3 : Option Addr} {cc4 : Nat} {r0 : Int} {q0 : T_frames_Op} {q1 : T_cells_Arena} (H : frames_Op_fork_iface p0 p1 = some (r0, q0, q1)) (h : Fit z (sepL (ob50 B0 p0 :: ob103 B1 p1 ca1 cc2 ca3 cc4 :: ro2 ca1 cc2 p1.cell :: ro96 ca3 cc4 p1.log :: L)) w)  :
    Calls Try.prog 82 #[.pointer (some ⟨B0, 0, none⟩), .iface 26 (.pointer (some ⟨B1, 0, none⟩))] w fun e w => ∃ caq1_1 : Option Addr, ∃ ccq1_2 : Nat, ∃ caq1_3 : Option Addr, ∃ ccq1_4 : Nat, e = .returned (.int .i64 r0) ∧ Fit z (sepL (ob50 B0 q0 :: ob103 B1 q1 caq1_1 ccq1_2 caq1_3 ccq1_4 :: ro2 caq1_1 ccq1_2 q1.cell :: ro96 caq1_3 ccq1_4 q1.log :: L)) w := by
  unfold frames_Op_fork_iface at H
  refine enter Try.func82 rfl 34 rfl rfl [(0, .pointer (some ⟨B0, 0, none⟩)), (1, .iface 26 (.pointer (some ⟨B1, 0, none⟩)))] ⟨rfl, rfl, trivial⟩ ?_
  intro j a hr
  refine wp_seq ?_
  refine wp_region_lit ?_
  refine ov hr (.int .i64 0) (by kernel_rfl) ?_; clear hr a; intro a hr
  refine wpList_nil ?_
  refine then_normal ?_
  refine wp_seq ?_
  replace H := bd1 H; obtain ⟨r5, e6, H⟩ := H
  replace H := bd3 H; obtain ⟨r7, r8, S9, e10, H⟩ := H
  refine reg_E (fun w => heldC w B0 0 [.int .i64 p0.head_t_Base, .int .i64 p0.head_t_Frames] ∧ heldC w B0 2 [.int .i64 p0.head_frame] ∧ True) [2, 3, 4, 7, 8, 9, 11, 12, 13] h (by kernel_rfl) ?_; intro w h
  change wpAnyE _ _ _ _ _ _ 21 (Array.replicate 21 false) a w
  have hgo : ∀ w w', CellsGo w w' → (heldC w B0 0 [.int .i64 p0.head_t_Base, .int .i64 p0.head_t_Frames] ∧ heldC w B0 2 [.int .i64 p0.head_frame] ∧ True) → heldC w' B0 0 [.int .i64 p0.head_t_Base, .int .i64 p0.head_t_Frames] ∧ heldC w' B0 2 [.int .i64 p0.head_frame] ∧ True := fun w w' g hD => ⟨heldC_go _ _ _ _ _ g hD.1, heldC_go _ _ _ _ _ g hD.2.1, trivial⟩
  refine ev 20 0 rfl (by kernel_rfl) (wn rfl) hr (.iface 26 (.pointer (some ⟨B1, 0, none⟩))) (fun w => by kernel_rfl) ?_; clear hr a; intro a hr
  refine ev 19 1 rfl (by kernel_rfl) (wn rfl) hr (.pointer (some ⟨B0, 0, none⟩)) (fun w => by kernel_rfl) ?_; clear hr a; intro a hr
  refine evD hgo ⟨⟨h.cell 0 rfl, h.cell 1 rfl, trivial⟩, ⟨h.cell 2 rfl, trivial⟩, trivial⟩ 18 2 rfl (by kernel_rfl) (wn rfl) hr (.pointer (some ⟨B0, 0, none⟩)) (fun w => by kernel_rfl) ?_; clear hr a; intro a hr
  refine evD hgo ⟨⟨h.cell 0 rfl, h.cell 1 rfl, trivial⟩, ⟨h.cell 2 rfl, trivial⟩, trivial⟩ 17 3 rfl (by kernel_rfl) (wn rfl) hr (.pointer (some ⟨B0, 0, none⟩)) (fun w => by kernel_rfl) ?_; clear hr a; intro a hr
  refine evD hgo ⟨⟨h.cell 0 rfl, h.cell 1 rfl, trivial⟩, ⟨h.cell 2 rfl, trivial⟩, trivial⟩ 16 4 rfl (by kernel_rfl) (wn rfl) hr (.pointer (some ⟨B0, 0, none⟩)) (fun w => by kernel_rfl) ?_; clear hr a; intro a hr
  refine ev 15 6 rfl (by kernel_rfl) (wn rfl) hr (.pointer (some ⟨B0, 0, none⟩)) (fun w => by kernel_rfl) ?_; clear hr a; intro a hr
  refine evD hgo ⟨⟨h.cell 0 rfl, h.cell 1 rfl, trivial⟩, ⟨h.cell 2 rfl, trivial⟩, trivial⟩ 14 7 rfl (by kernel_rfl) (wn rfl) hr (.pointer (some ⟨B0, 0, none⟩)) (fun w => by kernel_rfl) ?_; clear hr a; intro a hr
  refine evD hgo ⟨⟨h.cell 0 rfl, h.cell 1 rfl, trivial⟩, ⟨h.cell 2 rfl, trivial⟩, trivial⟩ 13 8 rfl (by kernel_rfl) (wn rfl) hr (.pointer (some ⟨B0, 0, none⟩)) (fun w => by kernel_rfl) ?_; clear hr a; intro a hr
  refine evD hgo ⟨⟨h.cell 0 rfl, h.cell 1 rfl, trivial⟩, ⟨h.cell 2 rfl, trivial⟩, trivial⟩ 12 9 rfl (by kernel_rfl) (wn rfl) hr (.pointer (some ⟨B0, 2, none⟩)) (fun w => by kernel_rfl) ?_; clear hr a; intro a hr
  refine evD hgo ⟨⟨h.cell 0 rfl, h.cell 1 rfl, trivial⟩, ⟨h.cell 2 rfl, trivial⟩, trivial⟩ 11 12 rfl (by kernel_rfl) (wn rfl) hr (.func (.method "Add") #[.iface 26 (.pointer (some ⟨B1, 0, none⟩))] #[]) (fun w => by kernel_rfl) ?_; clear hr a; intro a hr
  refine evD hgo ⟨⟨h.cell 0 rfl, h.cell 1 rfl, trivial⟩, ⟨h.cell 2 rfl, trivial⟩, trivial⟩ 10 13 rfl (by kernel_rfl) (wn rfl) hr (.func (.method "Add") #[.iface 26 (.pointer (some ⟨B1, 0, none⟩))] #[]) (fun w => by kernel_rfl) ?_; clear hr a; intro a hr
  refine ev 9 14 rfl (by kernel_rfl) (wn rfl) hr (.iface 26 (.pointer (some ⟨B1, 0, none⟩))) (fun w => by kernel_rfl) ?_; clear hr a; intro a hr
  refine el [2, 3, 4, 7, 8, 9, 11, 12, 13] (b := B0) (off := 0) (cs := [.int .i64 p0.head_t_Base, .int .i64 p0.head_t_Frames]) (fun _ hk => ⟨hk, fun w hD => hD.1⟩) 8 5 rfl (by kernel_rfl) (wn rfl) hr (.agg #[.int .i64 p0.head_t_Base, .int .i64 p0.head_t_Frames]) ⟨h.cell 0 rfl, h.cell 1 rfl, trivial⟩ (fun w hc => rlm (cs := [.int .i64 p0.head_t_Base, .int .i64 p0.head_t_Frames]) rfl (by kernel_rfl) (by kernel_rfl) (by kernel_rfl) hc) ?_; clear hr a; intro a hr
  refine el [2, 3, 4, 7, 8, 9, 11, 12, 13] (b := B0) (off := 2) (cs := [.int .i64 p0.head_frame]) (fun _ hk => ⟨hk, fun w hD => hD.2.1⟩) 7 10 rfl (by kernel_rfl) (wn rfl) hr (.int .i64 p0.head_frame) ⟨h.cell 2 rfl, trivial⟩ (fun w hc => rl rfl (by kernel_rfl) (by kernel_rfl) hc.1) ?_; clear hr a; intro a hr
  refine e_one (fuel := 6) (i := 11) (by kernel_rfl) rfl ?_
  have hc := frames_Table__join_ok (H := e6) (h := h)
  refine op_call (wn rfl) rfl rfl hr (f := 54) (args := #[.agg #[.int .i64 p0.head_t_Base, .int .i64 p0.head_t_Frames], .int .i64 p0.head_frame]) (by kernel_rfl) hc ?_; clear hc h
  rintro _ w ⟨rfl, h⟩; refine ⟨_, rfl, ?_⟩
  clear hr a; intro a hr
  refine wpList_nil ?_; refine then_normal ?_
  refine ⟨fun _ => ⟨⟨h.cell 0 rfl, h.cell 1 rfl, trivial⟩, ⟨h.cell 2 rfl, trivial⟩, trivial⟩, ?_⟩
  refine e_one (fuel := 5) (i := 15) (by kernel_rfl) rfl ?_
  replace h : Fit z (sepL (ob103 B1 p1 ca1 cc2 ca3 cc4 :: ro2 ca1 cc2 p1.cell :: ro96 ca3 cc4 p1.log :: ob50 B0 p0 :: L)) _ := h.sel 4 [1, 2, 3, 0] (by kernel_rfl) (by kernel_rfl)
  have hc := cells_Arena_Add_ok (H := e10) (h := h)
  refine op_call (wn rfl) rfl rfl hr (f := 122) (args := #[.pointer (some ⟨B1, 0, none⟩), .int .i64 r5, .int .i64 1]) (by kernel_rfl) hc ?_; clear hc h
  rintro _ w ⟨caq11, ccq12, caq13, ccq14, rfl, h⟩; refine ⟨_, rfl, ?_⟩
  clear hr a; intro a hr
  refine wpList_nil ?_; refine then_normal ?_
  refine ⟨fun hE => absurd hE (by decide), ?_⟩
  refine ev 4 16 rfl (by kernel_rfl) (wn rfl) hr (.tuple #[.int .i64 r7, .int .i64 r8]) (fun w => by kernel_rfl) ?_; clear hr a; intro a hr
  refine ev 3 17 rfl (by kernel_rfl) (wn rfl) hr (.int .i64 r7) (fun w => by kernel_rfl) ?_; clear hr a; intro a hr
  refine ev 2 18 rfl (by kernel_rfl) (wn rfl) hr (.int .i64 r8) (fun w => by kernel_rfl) ?_; clear hr a; intro a hr
  refine ev 1 19 rfl (by kernel_rfl) (wn rfl) hr (.int .i64 r7) (fun w => by kernel_rfl) ?_; clear hr a; intro a hr
  refine ev 0 20 rfl (by kernel_rfl) (wn rfl) hr (.int .i64 r8) (fun w => by kernel_rfl) ?_; clear hr a; intro a hr
  refine e_end (by kernel_rfl) ?_
  refine then_normal ?_
  refine wp_seq ?_
  refine wp_seq ?_
  refine wp_region_lit ?_
  refine ovs [26, 27] [.int .i64 r8, .bool (r8 == (0 : Int))] hr ⟨rfl, rfl⟩ (by kernel_rfl) ?_; clear hr a; intro a hr
  refine wpList_nil ?_
  refine then_normal ?_
  by_cases c15 : r8 = (0 : Int)
  ·
    replace H := ifT c15 H
    refine cond_tt hr (b := (r8 == (0 : Int))) (beq_iff_eq.mpr c15) ?_
    refine wp_region_lit ?_
    replace H := bd1 H; obtain ⟨S16, e17, H⟩ := H
    refine ovs [28, 29, 30, 31] [.pointer (some ⟨B0, 0, none⟩), .pointer (some ⟨B0, 0, none⟩), .pointer (some ⟨B0, 0, none⟩), .int .i64 r7] hr ⟨rfl, rfl⟩ (by kernel_rfl) ?_; clear hr a; intro a hr
    replace h : Fit z (sepL (ob50 B0 p0 :: ob103 B1 S9 caq11 ccq12 caq13 ccq14 :: ro2 caq11 ccq12 S9.cell :: ro96 caq13 ccq14 S9.log :: L)) _ := h.sel 4 [3, 0, 1, 2] (by kernel_rfl) (by kernel_rfl)
    have hc := frames_head_end_ok (H := e17) (h := h)
    refine op_call (wn rfl) rfl rfl hr (f := 56) (args := #[.pointer (some ⟨B0, 0, none⟩), .int .i64 9, .int .i64 r7]) (by kernel_rfl) hc ?_; clear hc h
    rintro _ w ⟨rfl, h⟩; refine ⟨_, rfl, ?_⟩
    clear hr a; intro a hr
    refine wpList_nil ?_
    refine then_normal ?_
    refine wp_seq ?_
    refine wp_region_lit ?_
    refine ovs [33, 4] [.int .i64 r8, .int .i64 r8] hr ⟨rfl, rfl⟩ (by kernel_rfl) ?_; clear hr a; intro a hr
    refine wpList_nil ?_
    refine then_normal ?_
    refine wp_ret ?_
    refine end_ret1 (v := .int .i64 r8) rfl hr (by kernel_rfl) ?_
    replace H := ej3 H; obtain ⟨rfl, rfl, rfl⟩ := H
    exact ⟨caq11, ccq12, caq13, ccq14, rfl, h⟩
  ·
    replace H := ifF c15 H
    refine cond_ff hr (b := (r8 == (0 : Int))) (beq_eq_false_iff_ne.mpr c15) ?_
    refine wp_skip ?_
    refine then_normal ?_
    refine wp_seq ?_
    refine wp_region_lit ?_
    refine ovs [33, 4] [.int .i64 r8, .int .i64 r8] hr ⟨rfl, rfl⟩ (by kernel_rfl) ?_; clear hr a; intro a hr
    refine wpList_nil ?_
    refine then_normal ?_
    refine wp_ret ?_
    refine end_ret1 (v := .int .i64 r8) rfl hr (by kernel_rfl) ?_
    replace h : Fit z (sepL (ob50 B0 p0 :: ob103 B1 S9 caq11 ccq12 caq13 ccq14 :: ro2 caq11 ccq12 S9.cell :: ro96 caq13 ccq14 S9.log :: L)) _ := h.sel 4 [3, 0, 1, 2] (by kernel_rfl) (by kernel_rfl)
    replace H := ej3 H; obtain ⟨rfl, rfl, rfl⟩ := H
    exact ⟨caq11, ccq12, caq13, ccq14, rfl, h⟩

/-- (plunder/frames.Table).slot -/
def frames_Table__slot (p0 : T_frames_Table) (p1 : Int) (p2 : Int) : Option (Int) :=
  ob1 (frames_Table__join p0 p1) (fun r2 => some (wi ((wi (r2 + (2 : Int))) + p2)))
set_option maxRecDepth 100000 in
set_option maxHeartbeats 4000000 in
theorem frames_Table__slot_ok {z w : World} {L : List HProp} {p0 : T_frames_Table} {p1 : Int} {p2 : Int} {r0 : Int} (H : frames_Table__slot p0 p1 p2 = some r0) (h : Fit z (sepL (L)) w)  :
    Calls Try.prog 99 #[.agg #[.int .i64 p0.Base, .int .i64 p0.Frames], .int .i64 p1, .int .i64 p2] w fun e w => e = .returned (.int .i64 r0) ∧ Fit z (sepL (L)) w := by
  unfold frames_Table__slot at H
  refine enter Try.func99 rfl 13 rfl rfl [(0, .agg #[.int .i64 p0.Base, .int .i64 p0.Frames]), (1, .int .i64 p1), (2, .int .i64 p2)] ⟨rfl, rfl, rfl, trivial⟩ ?_
  intro j a hr
  refine wp_seq ?_
  refine wp_region_lit ?_
  refine op_new (wn rfl) rfl rfl hr h (vf := fun b => .pointer (some ⟨b, 0, none⟩)) (cs := #[.int .i64 p0.Base, .int .i64 p0.Frames]) (T := 39) (by kernel_rfl) ?_; clear h hr a; intro b1 w a h hr
  refine ov hr (.int .i64 0) (by kernel_rfl) ?_; clear hr a; intro a hr
  refine wpList_nil ?_
  refine then_normal ?_
  refine wp_seq ?_
  refine wp_region_lit ?_
  refine op_val (wn rfl) rfl rfl hr (v := .agg #[.int .i64 p0.Base, .int .i64 p0.Frames]) (rlm (cs := [.int .i64 p0.Base, .int .i64 p0.Frames]) rfl (by kernel_rfl) (by kernel_rfl) (by kernel_rfl) ⟨h.cell 0 rfl, h.cell 1 rfl, trivial⟩) ?_; clear hr a; intro a hr
  replace H := bd1 H; obtain ⟨r2, e3, H⟩ := H
  refine ov hr (.int .i64 p1) (by kernel_rfl) ?_; clear hr a; intro a hr
  have hc := frames_Table__join_ok (H := e3) (h := h)
  refine op_call (wn rfl) rfl rfl hr (f := 54) (args := #[.agg #[.int .i64 p0.Base, .int .i64 p0.Frames], .int .i64 p1]) (by kernel_rfl) hc ?_; clear hc h
  rintro _ w ⟨rfl, h⟩; refine ⟨_, rfl, ?_⟩
  clear hr a; intro a hr
  refine ovs [10, 11, 12, 6] [.int .i64 (wi (r2 + (2 : Int))), .int .i64 p2, .int .i64 (wi ((wi (r2 + (2 : Int))) + p2)), .int .i64 (wi ((wi (r2 + (2 : Int))) + p2))] hr ⟨rfl, rfl⟩ (by kernel_rfl) ?_; clear hr a; intro a hr
  refine wpList_nil ?_
  refine then_normal ?_
  refine wp_ret ?_
  refine end_ret1 (v := .int .i64 (wi ((wi (r2 + (2 : Int))) + p2))) rfl hr (by kernel_rfl) ?_
  replace h : Fit z (sepL (L)) _ := h.sel 1 [] (by kernel_rfl) (by kernel_rfl)
  replace H := ej1 H; subst H
  exact ⟨rfl, h⟩

/-- (*plunder/frames.Op).less -/
def frames_Op_less_iface (p0 : T_frames_Op) (p1 : T_cells_Arena) (p2 : Int) : Option (Int × T_frames_Op × T_cells_Arena) :=
  ob1 (frames_Table__join (⟨p0.head_t_Base, p0.head_t_Frames⟩ : T_frames_Table) p0.head_frame) (fun r5 => ob3 (cells_Arena_Add p1 r5 (-1)) (fun r7 r8 S9 => (if r8 = (0 : Int) then (if r7 = (0 : Int) then some (r8, p0, S9) else ob1 (frames_head_end p0 p2 r7) (fun S17 => some (r8, S17, S9))) else some (r8, p0, S9))))
set_option maxRecDepth 100000 in
set_option maxHeartbeats 4000000 in
theorem frames_Op_less_iface_ok {z w : World} {L : List HProp} {p0 : T_frames_Op} {p1 : T_cells_Arena} {p2 : Int} {B0 : Nat} {B1 : Nat} {ca1 : Option Addr} {cc2 : Nat} {ca3 : Option Addr} {cc4 : Nat} {r0 : Int} {q0 : T_frames_Op} {q1 : T_cells_Arena} (H : frames_Op_less_iface p0 p1 p2 = some (r0, q0, q1)) (h : Fit z (sepL (ob50 B0 p0 :: ob103 B1 p1 ca1 cc2 ca3 cc4 :: ro2 ca1 cc2 p1.cell :: ro96 ca3 cc4 p1.log :: L)) w)  :
    Calls Try.prog 100 #[.pointer (some ⟨B0, 0, none⟩), .iface 26 (.pointer (some ⟨B1, 0, none⟩)), .int .i64 p2] w fun e w => ∃ caq1_1 : Option Addr, ∃ ccq1_2 : Nat, ∃ caq1_3 : Option Addr, ∃ ccq1_4 : Nat, e = .returned (.int .i64 r0) ∧ Fit z (sepL (ob50 B0 q0 :: ob103 B1 q1 caq1_1 ccq1_2 caq1_3 ccq1_4 :: ro2 caq1_1 ccq1_2 q1.cell :: ro96 caq1_3 ccq1_4 q1.log :: L)) w := by
  unfold frames_Op_less_iface at H
  refine enter Try.func100 rfl 41 rfl rfl [(0, .pointer (some ⟨B0, 0, none⟩)), (1, .iface 26 (.pointer (some ⟨B1, 0, none⟩))), (2, .int .i64 p2)] ⟨rfl, rfl, rfl, trivial⟩ ?_
  intro j a hr
  refine wp_seq ?_
  refine wp_region_lit ?_
  refine ov hr (.int .i64 0) (by kernel_rfl) ?_; clear hr a; intro a hr
  refine wpList_nil ?_
  refine then_normal ?_
  refine wp_seq ?_
  replace H := bd1 H; obtain ⟨r5, e6, H⟩ := H
  replace H := bd3 H; obtain ⟨r7, r8, S9, e10, H⟩ := H
  refine reg_E (fun w => heldC w B0 0 [.int .i64 p0.head_t_Base, .int .i64 p0.head_t_Frames] ∧ heldC w B0 2 [.int .i64 p0.head_frame] ∧ True) [2, 3, 4, 7, 8, 9, 11, 12, 13] h (by kernel_rfl) ?_; intro w h
  change wpAnyE _ _ _ _ _ _ 21 (Array.replicate 21 false) a w
  have hgo : ∀ w w', CellsGo w w' → (heldC w B0 0 [.int .i64 p0.head_t_Base, .int .i64 p0.head_t_Frames] ∧ heldC w B0 2 [.int .i64 p0.head_frame] ∧ True) → heldC w' B0 0 [.int .i64 p0.head_t_Base, .int .i64 p0.head_t_Frames] ∧ heldC w' B0 2 [.int .i64 p0.head_frame] ∧ True := fun w w' g hD => ⟨heldC_go _ _ _ _ _ g hD.1, heldC_go _ _ _ _ _ g hD.2.1, trivial⟩
  refine ev 20 0 rfl (by kernel_rfl) (wn rfl) hr (.iface 26 (.pointer (some ⟨B1, 0, none⟩))) (fun w => by kernel_rfl) ?_; clear hr a; intro a hr
  refine ev 19 1 rfl (by kernel_rfl) (wn rfl) hr (.pointer (some ⟨B0, 0, none⟩)) (fun w => by kernel_rfl) ?_; clear hr a; intro a hr
  refine evD hgo ⟨⟨h.cell 0 rfl, h.cell 1 rfl, trivial⟩, ⟨h.cell 2 rfl, trivial⟩, trivial⟩ 18 2 rfl (by kernel_rfl) (wn rfl) hr (.pointer (some ⟨B0, 0, none⟩)) (fun w => by kernel_rfl) ?_; clear hr a; intro a hr
  refine evD hgo ⟨⟨h.cell 0 rfl, h.cell 1 rfl, trivial⟩, ⟨h.cell 2 rfl, trivial⟩, trivial⟩ 17 3 rfl (by kernel_rfl) (wn rfl) hr (.pointer (some ⟨B0, 0, none⟩)) (fun w => by kernel_rfl) ?_; clear hr a; intro a hr
  refine evD hgo ⟨⟨h.cell 0 rfl, h.cell 1 rfl, trivial⟩, ⟨h.cell 2 rfl, trivial⟩, trivial⟩ 16 4 rfl (by kernel_rfl) (wn rfl) hr (.pointer (some ⟨B0, 0, none⟩)) (fun w => by kernel_rfl) ?_; clear hr a; intro a hr
  refine ev 15 6 rfl (by kernel_rfl) (wn rfl) hr (.pointer (some ⟨B0, 0, none⟩)) (fun w => by kernel_rfl) ?_; clear hr a; intro a hr
  refine evD hgo ⟨⟨h.cell 0 rfl, h.cell 1 rfl, trivial⟩, ⟨h.cell 2 rfl, trivial⟩, trivial⟩ 14 7 rfl (by kernel_rfl) (wn rfl) hr (.pointer (some ⟨B0, 0, none⟩)) (fun w => by kernel_rfl) ?_; clear hr a; intro a hr
  refine evD hgo ⟨⟨h.cell 0 rfl, h.cell 1 rfl, trivial⟩, ⟨h.cell 2 rfl, trivial⟩, trivial⟩ 13 8 rfl (by kernel_rfl) (wn rfl) hr (.pointer (some ⟨B0, 0, none⟩)) (fun w => by kernel_rfl) ?_; clear hr a; intro a hr
  refine evD hgo ⟨⟨h.cell 0 rfl, h.cell 1 rfl, trivial⟩, ⟨h.cell 2 rfl, trivial⟩, trivial⟩ 12 9 rfl (by kernel_rfl) (wn rfl) hr (.pointer (some ⟨B0, 2, none⟩)) (fun w => by kernel_rfl) ?_; clear hr a; intro a hr
  refine evD hgo ⟨⟨h.cell 0 rfl, h.cell 1 rfl, trivial⟩, ⟨h.cell 2 rfl, trivial⟩, trivial⟩ 11 12 rfl (by kernel_rfl) (wn rfl) hr (.func (.method "Add") #[.iface 26 (.pointer (some ⟨B1, 0, none⟩))] #[]) (fun w => by kernel_rfl) ?_; clear hr a; intro a hr
  refine evD hgo ⟨⟨h.cell 0 rfl, h.cell 1 rfl, trivial⟩, ⟨h.cell 2 rfl, trivial⟩, trivial⟩ 10 13 rfl (by kernel_rfl) (wn rfl) hr (.func (.method "Add") #[.iface 26 (.pointer (some ⟨B1, 0, none⟩))] #[]) (fun w => by kernel_rfl) ?_; clear hr a; intro a hr
  refine ev 9 14 rfl (by kernel_rfl) (wn rfl) hr (.iface 26 (.pointer (some ⟨B1, 0, none⟩))) (fun w => by kernel_rfl) ?_; clear hr a; intro a hr
  refine el [2, 3, 4, 7, 8, 9, 11, 12, 13] (b := B0) (off := 0) (cs := [.int .i64 p0.head_t_Base, .int .i64 p0.head_t_Frames]) (fun _ hk => ⟨hk, fun w hD => hD.1⟩) 8 5 rfl (by kernel_rfl) (wn rfl) hr (.agg #[.int .i64 p0.head_t_Base, .int .i64 p0.head_t_Frames]) ⟨h.cell 0 rfl, h.cell 1 rfl, trivial⟩ (fun w hc => rlm (cs := [.int .i64 p0.head_t_Base, .int .i64 p0.head_t_Frames]) rfl (by kernel_rfl) (by kernel_rfl) (by kernel_rfl) hc) ?_; clear hr a; intro a hr
  refine el [2, 3, 4, 7, 8, 9, 11, 12, 13] (b := B0) (off := 2) (cs := [.int .i64 p0.head_frame]) (fun _ hk => ⟨hk, fun w hD => hD.2.1⟩) 7 10 rfl (by kernel_rfl) (wn rfl) hr (.int .i64 p0.head_frame) ⟨h.cell 2 rfl, trivial⟩ (fun w hc => rl rfl (by kernel_rfl) (by kernel_rfl) hc.1) ?_; clear hr a; intro a hr
  refine e_one (fuel := 6) (i := 11) (by kernel_rfl) rfl ?_
  have hc := frames_Table__join_ok (H := e6) (h := h)
  refine op_call (wn rfl) rfl rfl hr (f := 54) (args := #[.agg #[.int .i64 p0.head_t_Base, .int .i64 p0.head_t_Frames], .int .i64 p0.head_frame]) (by kernel_rfl) hc ?_; clear hc h
  rintro _ w ⟨rfl, h⟩; refine ⟨_, rfl, ?_⟩
  clear hr a; intro a hr
  refine wpList_nil ?_; refine then_normal ?_
  refine ⟨fun _ => ⟨⟨h.cell 0 rfl, h.cell 1 rfl, trivial⟩, ⟨h.cell 2 rfl, trivial⟩, trivial⟩, ?_⟩
  refine e_one (fuel := 5) (i := 15) (by kernel_rfl) rfl ?_
  replace h : Fit z (sepL (ob103 B1 p1 ca1 cc2 ca3 cc4 :: ro2 ca1 cc2 p1.cell :: ro96 ca3 cc4 p1.log :: ob50 B0 p0 :: L)) _ := h.sel 4 [1, 2, 3, 0] (by kernel_rfl) (by kernel_rfl)
  have hc := cells_Arena_Add_ok (H := e10) (h := h)
  refine op_call (wn rfl) rfl rfl hr (f := 122) (args := #[.pointer (some ⟨B1, 0, none⟩), .int .i64 r5, .int .i64 (-1)]) (by kernel_rfl) hc ?_; clear hc h
  rintro _ w ⟨caq11, ccq12, caq13, ccq14, rfl, h⟩; refine ⟨_, rfl, ?_⟩
  clear hr a; intro a hr
  refine wpList_nil ?_; refine then_normal ?_
  refine ⟨fun hE => absurd hE (by decide), ?_⟩
  refine ev 4 16 rfl (by kernel_rfl) (wn rfl) hr (.tuple #[.int .i64 r7, .int .i64 r8]) (fun w => by kernel_rfl) ?_; clear hr a; intro a hr
  refine ev 3 17 rfl (by kernel_rfl) (wn rfl) hr (.int .i64 r7) (fun w => by kernel_rfl) ?_; clear hr a; intro a hr
  refine ev 2 18 rfl (by kernel_rfl) (wn rfl) hr (.int .i64 r8) (fun w => by kernel_rfl) ?_; clear hr a; intro a hr
  refine ev 1 19 rfl (by kernel_rfl) (wn rfl) hr (.int .i64 r7) (fun w => by kernel_rfl) ?_; clear hr a; intro a hr
  refine ev 0 20 rfl (by kernel_rfl) (wn rfl) hr (.int .i64 r8) (fun w => by kernel_rfl) ?_; clear hr a; intro a hr
  refine e_end (by kernel_rfl) ?_
  refine then_normal ?_
  refine wp_seq ?_
  refine wp_seq ?_
  refine wp_region_lit ?_
  refine ovs [28, 29, 30] [.int .i64 r8, .bool (r8 == (0 : Int)), .bool (r8 == (0 : Int))] hr ⟨rfl, rfl⟩ (by kernel_rfl) ?_; clear hr a; intro a hr
  by_cases c15 : r8 = (0 : Int)
  ·
    replace H := ifT c15 H
    refine op_val ((wg hr rfl rfl rfl (b' := (r8 == (0 : Int))) (by kernel_rfl)).trans (by rw [show (r8 == (0 : Int)) = true from (beq_iff_eq.mpr c15)]; rfl)) rfl rfl hr (v := .int .i64 r7) (by kernel_rfl) ?_; clear hr a; intro a hr
    refine op_val ((wg hr rfl rfl rfl (b' := (r8 == (0 : Int))) (by kernel_rfl)).trans (by rw [show (r8 == (0 : Int)) = true from (beq_iff_eq.mpr c15)]; rfl)) rfl rfl hr (v := .bool (r7 != (0 : Int))) (by kernel_rfl) ?_; clear hr a; intro a hr
    refine op_val (wn rfl) rfl rfl hr (v := .bool (r7 != (0 : Int))) (rp_t (b := (r8 == (0 : Int))) rfl (by kernel_rfl) (beq_iff_eq.mpr c15) (by kernel_rfl)) ?_; clear hr a; intro a hr
    refine wpList_nil ?_
    refine then_normal ?_
    by_cases c16 : r7 = (0 : Int)
    ·
      replace H := ifT c16 H
      refine cond_ff hr (b := (r7 != (0 : Int))) (bne_eq_false_iff_eq.mpr c16) ?_
      refine wp_skip ?_
      refine then_normal ?_
      refine wp_seq ?_
      refine wp_region_lit ?_
      refine ovs [40, 6] [.int .i64 r8, .int .i64 r8] hr ⟨rfl, rfl⟩ (by kernel_rfl) ?_; clear hr a; intro a hr
      refine wpList_nil ?_
      refine then_normal ?_
      refine wp_ret ?_
      refine end_ret1 (v := .int .i64 r8) rfl hr (by kernel_rfl) ?_
      replace h : Fit z (sepL (ob50 B0 p0 :: ob103 B1 S9 caq11 ccq12 caq13 ccq14 :: ro2 caq11 ccq12 S9.cell :: ro96 caq13 ccq14 S9.log :: L)) _ := h.sel 4 [3, 0, 1, 2] (by kernel_rfl) (by kernel_rfl)
      replace H := ej3 H; obtain ⟨rfl, rfl, rfl⟩ := H
      exact ⟨caq11, ccq12, caq13, ccq14, rfl, h⟩
    ·
      replace H := ifF c16 H
      refine cond_tt hr (b := (r7 != (0 : Int))) (bne_iff_ne.mpr c16) ?_
      refine wp_region_lit ?_
      replace H := bd1 H; obtain ⟨S17, e18, H⟩ := H
      refine ovs [34, 35, 36, 37, 38] [.pointer (some ⟨B0, 0, none⟩), .pointer (some ⟨B0, 0, none⟩), .pointer (some ⟨B0, 0, none⟩), .int .i64 p2, .int .i64 r7] hr ⟨rfl, rfl⟩ (by kernel_rfl) ?_; clear hr a; intro a hr
      replace h : Fit z (sepL (ob50 B0 p0 :: ob103 B1 S9 caq11 ccq12 caq13 ccq14 :: ro2 caq11 ccq12 S9.cell :: ro96 caq13 ccq14 S9.log :: L)) _ := h.sel 4 [3, 0, 1, 2] (by kernel_rfl) (by kernel_rfl)
      have hc := frames_head_end_ok (H := e18) (h := h)
      refine op_call (wn rfl) rfl rfl hr (f := 56) (args := #[.pointer (some ⟨B0, 0, none⟩), .int .i64 p2, .int .i64 r7]) (by kernel_rfl) hc ?_; clear hc h
      rintro _ w ⟨rfl, h⟩; refine ⟨_, rfl, ?_⟩
      clear hr a; intro a hr
      refine wpList_nil ?_
      refine then_normal ?_
      refine wp_seq ?_
      refine wp_region_lit ?_
      refine ovs [40, 6] [.int .i64 r8, .int .i64 r8] hr ⟨rfl, rfl⟩ (by kernel_rfl) ?_; clear hr a; intro a hr
      refine wpList_nil ?_
      refine then_normal ?_
      refine wp_ret ?_
      refine end_ret1 (v := .int .i64 r8) rfl hr (by kernel_rfl) ?_
      replace H := ej3 H; obtain ⟨rfl, rfl, rfl⟩ := H
      exact ⟨caq11, ccq12, caq13, ccq14, rfl, h⟩
  ·
    replace H := ifF c15 H
    refine op_off ((wg hr rfl rfl rfl (b' := (r8 == (0 : Int))) (by kernel_rfl)).trans (by rw [show (r8 == (0 : Int)) = false from (beq_eq_false_iff_ne.mpr c15)]; rfl)) rfl rfl hr ?_; clear hr a; intro a hr
    refine op_off ((wg hr rfl rfl rfl (b' := (r8 == (0 : Int))) (by kernel_rfl)).trans (by rw [show (r8 == (0 : Int)) = false from (beq_eq_false_iff_ne.mpr c15)]; rfl)) rfl rfl hr ?_; clear hr a; intro a hr
    refine op_val (wn rfl) rfl rfl hr (v := .bool false) (rp_f (b := (r8 == (0 : Int))) rfl (by kernel_rfl) (beq_eq_false_iff_ne.mpr c15) (by kernel_rfl)) ?_; clear hr a; intro a hr
    refine wpList_nil ?_
    refine then_normal ?_
    refine cond_ff hr (b := false) rfl ?_
    refine wp_skip ?_
    refine then_normal ?_
    refine wp_seq ?_
    refine wp_region_lit ?_
    refine ovs [40, 6] [.int .i64 r8, .int .i64 r8] hr ⟨rfl, rfl⟩ (by kernel_rfl) ?_; clear hr a; intro a hr
    refine wpList_nil ?_
    refine then_normal ?_
    refine wp_ret ?_
    refine end_ret1 (v := .int .i64 r8) rfl hr (by kernel_rfl) ?_
    replace h : Fit z (sepL (ob50 B0 p0 :: ob103 B1 S9 caq11 ccq12 caq13 ccq14 :: ro2 caq11 ccq12 S9.cell :: ro96 caq13 ccq14 S9.log :: L)) _ := h.sel 4 [3, 0, 1, 2] (by kernel_rfl) (by kernel_rfl)
    replace H := ej3 H; obtain ⟨rfl, rfl, rfl⟩ := H
    exact ⟨caq11, ccq12, caq13, ccq14, rfl, h⟩

/-- (*plunder/frames.Op).again -/
def frames_Op_again_iface (p0 : T_frames_Op) (p1 : T_cells_Arena) (p2 : Int) : Option (Int × T_frames_Op × T_cells_Arena) :=
  ob1 (frames_Table__join (⟨p0.head_t_Base, p0.head_t_Frames⟩ : T_frames_Table) p0.head_frame) (fun r5 => ob2 (cells_Arena_Store p1 r5 1) (fun r7 S8 => (if r7 = (0 : Int) then ob1 (frames_head_end p0 p2 0) (fun S15 => some (r7, S15, S8)) else some (r7, p0, S8))))
set_option maxRecDepth 100000 in
set_option maxHeartbeats 4000000 in
theorem frames_Op_again_iface_ok {z w : World} {L : List HProp} {p0 : T_frames_Op} {p1 : T_cells_Arena} {p2 : Int} {B0 : Nat} {B1 : Nat} {ca1 : Option Addr} {cc2 : Nat} {ca3 : Option Addr} {cc4 : Nat} {r0 : Int} {q0 : T_frames_Op} {q1 : T_cells_Arena} (H : frames_Op_again_iface p0 p1 p2 = some (r0, q0, q1)) (h : Fit z (sepL (ob50 B0 p0 :: ob103 B1 p1 ca1 cc2 ca3 cc4 :: ro2 ca1 cc2 p1.cell :: ro96 ca3 cc4 p1.log :: L)) w)  :
    Calls Try.prog 101 #[.pointer (some ⟨B0, 0, none⟩), .iface 26 (.pointer (some ⟨B1, 0, none⟩)), .int .i64 p2] w fun e w => ∃ caq1_1 : Option Addr, ∃ ccq1_2 : Nat, ∃ caq1_3 : Option Addr, ∃ ccq1_4 : Nat, e = .returned (.int .i64 r0) ∧ Fit z (sepL (ob50 B0 q0 :: ob103 B1 q1 caq1_1 ccq1_2 caq1_3 ccq1_4 :: ro2 caq1_1 ccq1_2 q1.cell :: ro96 caq1_3 ccq1_4 q1.log :: L)) w := by
  unfold frames_Op_again_iface at H
  refine enter Try.func101 rfl 32 rfl rfl [(0, .pointer (some ⟨B0, 0, none⟩)), (1, .iface 26 (.pointer (some ⟨B1, 0, none⟩))), (2, .int .i64 p2)] ⟨rfl, rfl, rfl, trivial⟩ ?_
  intro j a hr
  refine wp_seq ?_
  refine wp_region_lit ?_
  refine ov hr (.int .i64 0) (by kernel_rfl) ?_; clear hr a; intro a hr
  refine wpList_nil ?_
  refine then_normal ?_
  refine wp_seq ?_
  replace H := bd1 H; obtain ⟨r5, e6, H⟩ := H
  replace H := bd2 H; obtain ⟨r7, S8, e9, H⟩ := H
  refine reg_E (fun w => heldC w B0 0 [.int .i64 p0.head_t_Base, .int .i64 p0.head_t_Frames] ∧ heldC w B0 2 [.int .i64 p0.head_frame] ∧ True) [2, 3, 4, 7, 8, 9, 11, 12, 13] h (by kernel_rfl) ?_; intro w h
  change wpAnyE _ _ _ _ _ _ 17 (Array.replicate 17 false) a w
  have hgo : ∀ w w', CellsGo w w' → (heldC w B0 0 [.int .i64 p0.head_t_Base, .int .i64 p0.head_t_Frames] ∧ heldC w B0 2 [.int .i64 p0.head_frame] ∧ True) → heldC w' B0 0 [.int .i64 p0.head_t_Base, .int .i64 p0.head_t_Frames] ∧ heldC w' B0 2 [.int .i64 p0.head_frame] ∧ True := fun w w' g hD => ⟨heldC_go _ _ _ _ _ g hD.1, heldC_go _ _ _ _ _ g hD.2.1, trivial⟩
  refine ev 16 0 rfl (by kernel_rfl) (wn rfl) hr (.iface 26 (.pointer (some ⟨B1, 0, none⟩))) (fun w => by kernel_rfl) ?_; clear hr a; intro a hr
  refine ev 15 1 rfl (by kernel_rfl) (wn rfl) hr (.pointer (some ⟨B0, 0, none⟩)) (fun w => by kernel_rfl) ?_; clear hr a; intro a hr
  refine evD hgo ⟨⟨h.cell 0 rfl, h.cell 1 rfl, trivial⟩, ⟨h.cell 2 rfl, trivial⟩, trivial⟩ 14 2 rfl (by kernel_rfl) (wn rfl) hr (.pointer (some ⟨B0, 0, none⟩)) (fun w => by kernel_rfl) ?_; clear hr a; intro a hr
  refine evD hgo ⟨⟨h.cell 0 rfl, h.cell 1 rfl, trivial⟩, ⟨h.cell 2 rfl, trivial⟩, trivial⟩ 13 3 rfl (by kernel_rfl) (wn rfl) hr (.pointer (some ⟨B0, 0, none⟩)) (fun w => by kernel_rfl) ?_; clear hr a; intro a hr
  refine evD hgo ⟨⟨h.cell 0 rfl, h.cell 1 rfl, trivial⟩, ⟨h.cell 2 rfl, trivial⟩, trivial⟩ 12 4 rfl (by kernel_rfl) (wn rfl) hr (.pointer (some ⟨B0, 0, none⟩)) (fun w => by kernel_rfl) ?_; clear hr a; intro a hr
  refine ev 11 6 rfl (by kernel_rfl) (wn rfl) hr (.pointer (some ⟨B0, 0, none⟩)) (fun w => by kernel_rfl) ?_; clear hr a; intro a hr
  refine evD hgo ⟨⟨h.cell 0 rfl, h.cell 1 rfl, trivial⟩, ⟨h.cell 2 rfl, trivial⟩, trivial⟩ 10 7 rfl (by kernel_rfl) (wn rfl) hr (.pointer (some ⟨B0, 0, none⟩)) (fun w => by kernel_rfl) ?_; clear hr a; intro a hr
  refine evD hgo ⟨⟨h.cell 0 rfl, h.cell 1 rfl, trivial⟩, ⟨h.cell 2 rfl, trivial⟩, trivial⟩ 9 8 rfl (by kernel_rfl) (wn rfl) hr (.pointer (some ⟨B0, 0, none⟩)) (fun w => by kernel_rfl) ?_; clear hr a; intro a hr
  refine evD hgo ⟨⟨h.cell 0 rfl, h.cell 1 rfl, trivial⟩, ⟨h.cell 2 rfl, trivial⟩, trivial⟩ 8 9 rfl (by kernel_rfl) (wn rfl) hr (.pointer (some ⟨B0, 2, none⟩)) (fun w => by kernel_rfl) ?_; clear hr a; intro a hr
  refine evD hgo ⟨⟨h.cell 0 rfl, h.cell 1 rfl, trivial⟩, ⟨h.cell 2 rfl, trivial⟩, trivial⟩ 7 12 rfl (by kernel_rfl) (wn rfl) hr (.func (.method "Store") #[.iface 26 (.pointer (some ⟨B1, 0, none⟩))] #[]) (fun w => by kernel_rfl) ?_; clear hr a; intro a hr
  refine evD hgo ⟨⟨h.cell 0 rfl, h.cell 1 rfl, trivial⟩, ⟨h.cell 2 rfl, trivial⟩, trivial⟩ 6 13 rfl (by kernel_rfl) (wn rfl) hr (.func (.method "Store") #[.iface 26 (.pointer (some ⟨B1, 0, none⟩))] #[]) (fun w => by kernel_rfl) ?_; clear hr a; intro a hr
  refine ev 5 14 rfl (by kernel_rfl) (wn rfl) hr (.iface 26 (.pointer (some ⟨B1, 0, none⟩))) (fun w => by kernel_rfl) ?_; clear hr a; intro a hr
  refine el [2, 3, 4, 7, 8, 9, 11, 12, 13] (b := B0) (off := 0) (cs := [.int .i64 p0.head_t_Base, .int .i64 p0.head_t_Frames]) (fun _ hk => ⟨hk, fun w hD => hD.1⟩) 4 5 rfl (by kernel_rfl) (wn rfl) hr (.agg #[.int .i64 p0.head_t_Base, .int .i64 p0.head_t_Frames]) ⟨h.cell 0 rfl, h.cell 1 rfl, trivial⟩ (fun w hc => rlm (cs := [.int .i64 p0.head_t_Base, .int .i64 p0.head_t_Frames]) rfl (by kernel_rfl) (by kernel_rfl) (by kernel_rfl) hc) ?_; clear hr a; intro a hr
  refine el [2, 3, 4, 7, 8, 9, 11, 12, 13] (b := B0) (off := 2) (cs := [.int .i64 p0.head_frame]) (fun _ hk => ⟨hk, fun w hD => hD.2.1⟩) 3 10 rfl (by kernel_rfl) (wn rfl) hr (.int .i64 p0.head_frame) ⟨h.cell 2 rfl, trivial⟩ (fun w hc => rl rfl (by kernel_rfl) (by kernel_rfl) hc.1) ?_; clear hr a; intro a hr
  refine e_one (fuel := 2) (i := 11) (by kernel_rfl) rfl ?_
  have hc := frames_Table__join_ok (H := e6) (h := h)
  refine op_call (wn rfl) rfl rfl hr (f := 54) (args := #[.agg #[.int .i64 p0.head_t_Base, .int .i64 p0.head_t_Frames], .int .i64 p0.head_frame]) (by kernel_rfl) hc ?_; clear hc h
  rintro _ w ⟨rfl, h⟩; refine ⟨_, rfl, ?_⟩
  clear hr a; intro a hr
  refine wpList_nil ?_; refine then_normal ?_
  refine ⟨fun _ => ⟨⟨h.cell 0 rfl, h.cell 1 rfl, trivial⟩, ⟨h.cell 2 rfl, trivial⟩, trivial⟩, ?_⟩
  refine e_one (fuel := 1) (i := 15) (by kernel_rfl) rfl ?_
  replace h : Fit z (sepL (ob103 B1 p1 ca1 cc2 ca3 cc4 :: ro2 ca1 cc2 p1.cell :: ro96 ca3 cc4 p1.log :: ob50 B0 p0 :: L)) _ := h.sel 4 [1, 2, 3, 0] (by kernel_rfl) (by kernel_rfl)
  have hc := cells_Arena_Store_ok (H := e9) (h := h)
  refine op_call (wn rfl) rfl rfl hr (f := 125) (args := #[.pointer (some ⟨B1, 0, none⟩), .int .i64 r5, .int .i64 1]) (by kernel_rfl) hc ?_; clear hc h
  rintro _ w ⟨caq10, ccq11, caq12, ccq13, rfl, h⟩; refine ⟨_, rfl, ?_⟩
  clear hr a; intro a hr
  refine wpList_nil ?_; refine then_normal ?_
  refine ⟨fun hE => absurd hE (by decide), ?_⟩
  refine ev 0 16 rfl (by kernel_rfl) (wn rfl) hr (.int .i64 r7) (fun w => by kernel_rfl) ?_; clear hr a; intro a hr
  refine e_end (by kernel_rfl) ?_
  refine then_normal ?_
  refine wp_seq ?_
  refine wp_seq ?_
  refine wp_region_lit ?_
  refine ovs [24, 25] [.int .i64 r7, .bool (r7 == (0 : Int))] hr ⟨rfl, rfl⟩ (by kernel_rfl) ?_; clear hr a; intro a hr
  refine wpList_nil ?_
  refine then_normal ?_
  by_cases c14 : r7 = (0 : Int)
  ·
    replace H := ifT c14 H
    refine cond_tt hr (b := (r7 == (0 : Int))) (beq_iff_eq.mpr c14) ?_
    refine wp_region_lit ?_
    replace H := bd1 H; obtain ⟨S15, e16, H⟩ := H
    refine ovs [26, 27, 28, 29] [.pointer (some ⟨B0, 0, none⟩), .pointer (some ⟨B0, 0, none⟩), .pointer (some ⟨B0, 0, none⟩), .int .i64 p2] hr ⟨rfl, rfl⟩ (by kernel_rfl) ?_; clear hr a; intro a hr
    replace h : Fit z (sepL (ob50 B0 p0 :: ob103 B1 S8 caq10 ccq11 caq12 ccq13 :: ro2 caq10 ccq11 S8.cell :: ro96 caq12 ccq13 S8.log :: L)) _ := h.sel 4 [3, 0, 1, 2] (by kernel_rfl) (by kernel_rfl)
    have hc := frames_head_end_ok (H := e16) (h := h)
    refine op_call (wn rfl) rfl rfl hr (f := 56) (args := #[.pointer (some ⟨B0, 0, none⟩), .int .i64 p2, .int .i64 0]) (by kernel_rfl) hc ?_; clear hc h
    rintro _ w ⟨rfl, h⟩; refine ⟨_, rfl, ?_⟩
    clear hr a; intro a hr
    refine wpList_nil ?_
    refine then_normal ?_
    refine wp_seq ?_
    refine wp_region_lit ?_
    refine ovs [31, 6] [.int .i64 r7, .int .i64 r7] hr ⟨rfl, rfl⟩ (by kernel_rfl) ?_; clear hr a; intro a hr
    refine wpList_nil ?_
    refine then_normal ?_
    refine wp_ret ?_
    refine end_ret1 (v := .int .i64 r7) rfl hr (by kernel_rfl) ?_
    replace H := ej3 H; obtain ⟨rfl, rfl, rfl⟩ := H
    exact ⟨caq10, ccq11, caq12, ccq13, rfl, h⟩
  ·
    replace H := ifF c14 H
    refine cond_ff hr (b := (r7 == (0 : Int))) (beq_eq_false_iff_ne.mpr c14) ?_
    refine wp_skip ?_
    refine then_normal ?_
    refine wp_seq ?_
    refine wp_region_lit ?_
    refine ovs [31, 6] [.int .i64 r7, .int .i64 r7] hr ⟨rfl, rfl⟩ (by kernel_rfl) ?_; clear hr a; intro a hr
    refine wpList_nil ?_
    refine then_normal ?_
    refine wp_ret ?_
    refine end_ret1 (v := .int .i64 r7) rfl hr (by kernel_rfl) ?_
    replace h : Fit z (sepL (ob50 B0 p0 :: ob103 B1 S8 caq10 ccq11 caq12 ccq13 :: ro2 caq10 ccq11 S8.cell :: ro96 caq12 ccq13 S8.log :: L)) _ := h.sel 4 [3, 0, 1, 2] (by kernel_rfl) (by kernel_rfl)
    replace H := ej3 H; obtain ⟨rfl, rfl, rfl⟩ := H
    exact ⟨caq10, ccq11, caq12, ccq13, rfl, h⟩

/-- (*plunder/frames.Op).finish -/
def frames_Op_finish_iface (p0 : T_frames_Op) (p1 : T_cells_Arena) : Option (Int × T_frames_Op × T_cells_Arena) :=
  (if p0.head_stands = (1 : Int) then ob1 (frames_Table__slot (⟨p0.head_t_Base, p0.head_t_Frames⟩ : T_frames_Table) p0.head_frame p0.slot) (fun r6 => ob2 (cells_Arena_Store p1 r6 p0.give) (fun r8 S9 => some (r8, p0, S9))) else (if p0.head_stands = (2 : Int) then ob3 (frames_Op_less_iface p0 p1 10) (fun r16 S17 S18 => some (r16, S17, S18)) else ob3 (frames_Op_again_iface p0 p1 11) (fun r24 S25 S26 => some (r24, S25, S26))))
set_option maxRecDepth 100000 in
set_option maxHeartbeats 4000000 in
theorem frames_Op_finish_iface_ok {z w : World} {L : List HProp} {p0 : T_frames_Op} {p1 : T_cells_Arena} {B0 : Nat} {B1 : Nat} {ca1 : Option Addr} {cc2 : Nat} {ca3 : Option Addr} {cc4 : Nat} {r0 : Int} {q0 : T_frames_Op} {q1 : T_cells_Arena} (H : frames_Op_finish_iface p0 p1 = some (r0, q0, q1)) (h : Fit z (sepL (ob50 B0 p0 :: ob103 B1 p1 ca1 cc2 ca3 cc4 :: ro2 ca1 cc2 p1.cell :: ro96 ca3 cc4 p1.log :: L)) w)  :
    Calls Try.prog 83 #[.pointer (some ⟨B0, 0, none⟩), .iface 26 (.pointer (some ⟨B1, 0, none⟩))] w fun e w => ∃ caq1_1 : Option Addr, ∃ ccq1_2 : Nat, ∃ caq1_3 : Option Addr, ∃ ccq1_4 : Nat, e = .returned (.int .i64 r0) ∧ Fit z (sepL (ob50 B0 q0 :: ob103 B1 q1 caq1_1 ccq1_2 caq1_3 ccq1_4 :: ro2 caq1_1 ccq1_2 q1.cell :: ro96 caq1_3 ccq1_4 q1.log :: L)) w := by
  unfold frames_Op_finish_iface at H
  refine enter Try.func83 rfl 44 rfl rfl [(0, .pointer (some ⟨B0, 0, none⟩)), (1, .iface 26 (.pointer (some ⟨B1, 0, none⟩)))] ⟨rfl, rfl, trivial⟩ ?_
  intro j a hr
  refine wp_seq ?_
  refine wp_region_lit ?_
  refine ov hr (.int .i64 0) (by kernel_rfl) ?_; clear hr a; intro a hr
  refine wpList_nil ?_
  refine then_normal ?_
  refine wp_seq ?_
  refine wp_seq ?_
  refine wp_region_lit ?_
  refine ovs [5, 6, 7, 8] [.pointer (some ⟨B0, 0, none⟩), .pointer (some ⟨B0, 0, none⟩), .pointer (some ⟨B0, 0, none⟩), .pointer (some ⟨B0, 3, none⟩)] hr ⟨rfl, rfl⟩ (by kernel_rfl) ?_; clear hr a; intro a hr
  refine op_val (wn rfl) rfl rfl hr (v := .int .i64 p0.head_stands) (rl rfl (by kernel_rfl) (by kernel_rfl) (h.cell 3 rfl)) ?_; clear hr a; intro a hr
  refine wpList_nil ?_
  refine then_normal ?_
  refine wp_block ?_
  refine wp_seq ?_
  refine wp_region_lit ?_
  refine ovs [11, 10] [.bool (p0.head_stands == (1 : Int)), .bool (p0.head_stands == (1 : Int))] hr ⟨rfl, rfl⟩ (by kernel_rfl) ?_; clear hr a; intro a hr
  refine wpList_nil ?_
  refine then_normal ?_
  by_cases c5 : p0.head_stands = (1 : Int)
  ·
    replace H := ifT c5 H
    refine cond_tt hr (b := (p0.head_stands == (1 : Int))) (beq_iff_eq.mpr c5) ?_
    refine wp_seq ?_
    replace H := bd1 H; obtain ⟨r6, e7, H⟩ := H
    replace H := bd2 H; obtain ⟨r8, S9, e10, H⟩ := H
    refine reg_E (fun w => heldC w B0 0 [.int .i64 p0.head_t_Base, .int .i64 p0.head_t_Frames] ∧ heldC w B0 2 [.int .i64 p0.head_frame] ∧ heldC w B0 7 [.int .i64 p0.slot] ∧ heldC w B0 8 [.int .i64 p0.give] ∧ True) [2, 3, 4, 7, 8, 9, 12, 13, 15, 17, 18, 20, 21] h (by kernel_rfl) ?_; intro w h
    change wpAnyE _ _ _ _ _ _ 25 (Array.replicate 25 false) a w
    have hgo : ∀ w w', CellsGo w w' → (heldC w B0 0 [.int .i64 p0.head_t_Base, .int .i64 p0.head_t_Frames] ∧ heldC w B0 2 [.int .i64 p0.head_frame] ∧ heldC w B0 7 [.int .i64 p0.slot] ∧ heldC w B0 8 [.int .i64 p0.give] ∧ True) → heldC w' B0 0 [.int .i64 p0.head_t_Base, .int .i64 p0.head_t_Frames] ∧ heldC w' B0 2 [.int .i64 p0.head_frame] ∧ heldC w' B0 7 [.int .i64 p0.slot] ∧ heldC w' B0 8 [.int .i64 p0.give] ∧ True := fun w w' g hD => ⟨heldC_go _ _ _ _ _ g hD.1, heldC_go _ _ _ _ _ g hD.2.1, heldC_go _ _ _ _ _ g hD.2.2.1, heldC_go _ _ _ _ _ g hD.2.2.2.1, trivial⟩
    refine ev 24 0 rfl (by kernel_rfl) (wn rfl) hr (.iface 26 (.pointer (some ⟨B1, 0, none⟩))) (fun w => by kernel_rfl) ?_; clear hr a; intro a hr
    refine ev 23 1 rfl (by kernel_rfl) (wn rfl) hr (.pointer (some ⟨B0, 0, none⟩)) (fun w => by kernel_rfl) ?_; clear hr a; intro a hr
    refine evD hgo ⟨⟨h.cell 0 rfl, h.cell 1 rfl, trivial⟩, ⟨h.cell 2 rfl, trivial⟩, ⟨h.cell 7 rfl, trivial⟩, ⟨h.cell 8 rfl, trivial⟩, trivial⟩ 22 2 rfl (by kernel_rfl) (wn rfl) hr (.pointer (some ⟨B0, 0, none⟩)) (fun w => by kernel_rfl) ?_; clear hr a; intro a hr
    refine evD hgo ⟨⟨h.cell 0 rfl, h.cell 1 rfl, trivial⟩, ⟨h.cell 2 rfl, trivial⟩, ⟨h.cell 7 rfl, trivial⟩, ⟨h.cell 8 rfl, trivial⟩, trivial⟩ 21 3 rfl (by kernel_rfl) (wn rfl) hr (.pointer (some ⟨B0, 0, none⟩)) (fun w => by kernel_rfl) ?_; clear hr a; intro a hr
    refine evD hgo ⟨⟨h.cell 0 rfl, h.cell 1 rfl, trivial⟩, ⟨h.cell 2 rfl, trivial⟩, ⟨h.cell 7 rfl, trivial⟩, ⟨h.cell 8 rfl, trivial⟩, trivial⟩ 20 4 rfl (by kernel_rfl) (wn rfl) hr (.pointer (some ⟨B0, 0, none⟩)) (fun w => by kernel_rfl) ?_; clear hr a; intro a hr
    refine ev 19 6 rfl (by kernel_rfl) (wn rfl) hr (.pointer (some ⟨B0, 0, none⟩)) (fun w => by kernel_rfl) ?_; clear hr a; intro a hr
    refine evD hgo ⟨⟨h.cell 0 rfl, h.cell 1 rfl, trivial⟩, ⟨h.cell 2 rfl, trivial⟩, ⟨h.cell 7 rfl, trivial⟩, ⟨h.cell 8 rfl, trivial⟩, trivial⟩ 18 7 rfl (by kernel_rfl) (wn rfl) hr (.pointer (some ⟨B0, 0, none⟩)) (fun w => by kernel_rfl) ?_; clear hr a; intro a hr
    refine evD hgo ⟨⟨h.cell 0 rfl, h.cell 1 rfl, trivial⟩, ⟨h.cell 2 rfl, trivial⟩, ⟨h.cell 7 rfl, trivial⟩, ⟨h.cell 8 rfl, trivial⟩, trivial⟩ 17 8 rfl (by kernel_rfl) (wn rfl) hr (.pointer (some ⟨B0, 0, none⟩)) (fun w => by kernel_rfl) ?_; clear hr a; intro a hr
    refine evD hgo ⟨⟨h.cell 0 rfl, h.cell 1 rfl, trivial⟩, ⟨h.cell 2 rfl, trivial⟩, ⟨h.cell 7 rfl, trivial⟩, ⟨h.cell 8 rfl, trivial⟩, trivial⟩ 16 9 rfl (by kernel_rfl) (wn rfl) hr (.pointer (some ⟨B0, 2, none⟩)) (fun w => by kernel_rfl) ?_; clear hr a; intro a hr
    refine ev 15 11 rfl (by kernel_rfl) (wn rfl) hr (.pointer (some ⟨B0, 0, none⟩)) (fun w => by kernel_rfl) ?_; clear hr a; intro a hr
    refine evD hgo ⟨⟨h.cell 0 rfl, h.cell 1 rfl, trivial⟩, ⟨h.cell 2 rfl, trivial⟩, ⟨h.cell 7 rfl, trivial⟩, ⟨h.cell 8 rfl, trivial⟩, trivial⟩ 14 12 rfl (by kernel_rfl) (wn rfl) hr (.pointer (some ⟨B0, 0, none⟩)) (fun w => by kernel_rfl) ?_; clear hr a; intro a hr
    refine evD hgo ⟨⟨h.cell 0 rfl, h.cell 1 rfl, trivial⟩, ⟨h.cell 2 rfl, trivial⟩, ⟨h.cell 7 rfl, trivial⟩, ⟨h.cell 8 rfl, trivial⟩, trivial⟩ 13 13 rfl (by kernel_rfl) (wn rfl) hr (.pointer (some ⟨B0, 7, none⟩)) (fun w => by kernel_rfl) ?_; clear hr a; intro a hr
    refine ev 12 16 rfl (by kernel_rfl) (wn rfl) hr (.pointer (some ⟨B0, 0, none⟩)) (fun w => by kernel_rfl) ?_; clear hr a; intro a hr
    refine evD hgo ⟨⟨h.cell 0 rfl, h.cell 1 rfl, trivial⟩, ⟨h.cell 2 rfl, trivial⟩, ⟨h.cell 7 rfl, trivial⟩, ⟨h.cell 8 rfl, trivial⟩, trivial⟩ 11 17 rfl (by kernel_rfl) (wn rfl) hr (.pointer (some ⟨B0, 0, none⟩)) (fun w => by kernel_rfl) ?_; clear hr a; intro a hr
    refine evD hgo ⟨⟨h.cell 0 rfl, h.cell 1 rfl, trivial⟩, ⟨h.cell 2 rfl, trivial⟩, ⟨h.cell 7 rfl, trivial⟩, ⟨h.cell 8 rfl, trivial⟩, trivial⟩ 10 18 rfl (by kernel_rfl) (wn rfl) hr (.pointer (some ⟨B0, 8, none⟩)) (fun w => by kernel_rfl) ?_; clear hr a; intro a hr
    refine evD hgo ⟨⟨h.cell 0 rfl, h.cell 1 rfl, trivial⟩, ⟨h.cell 2 rfl, trivial⟩, ⟨h.cell 7 rfl, trivial⟩, ⟨h.cell 8 rfl, trivial⟩, trivial⟩ 9 20 rfl (by kernel_rfl) (wn rfl) hr (.func (.method "Store") #[.iface 26 (.pointer (some ⟨B1, 0, none⟩))] #[]) (fun w => by kernel_rfl) ?_; clear hr a; intro a hr
    refine evD hgo ⟨⟨h.cell 0 rfl, h.cell 1 rfl, trivial⟩, ⟨h.cell 2 rfl, trivial⟩, ⟨h.cell 7 rfl, trivial⟩, ⟨h.cell 8 rfl, trivial⟩, trivial⟩ 8 21 rfl (by kernel_rfl) (wn rfl) hr (.func (.method "Store") #[.iface 26 (.pointer (some ⟨B1, 0, none⟩))] #[]) (fun w => by kernel_rfl) ?_; clear hr a; intro a hr
    refine ev 7 22 rfl (by kernel_rfl) (wn rfl) hr (.iface 26 (.pointer (some ⟨B1, 0, none⟩))) (fun w => by kernel_rfl) ?_; clear hr a; intro a hr
    refine el [2, 3, 4, 7, 8, 9, 12, 13, 15, 17, 18, 20, 21] (b := B0) (off := 0) (cs := [.int .i64 p0.head_t_Base, .int .i64 p0.head_t_Frames]) (fun _ hk => ⟨hk, fun w hD => hD.1⟩) 6 5 rfl (by kernel_rfl) (wn rfl) hr (.agg #[.int .i64 p0.head_t_Base, .int .i64 p0.head_t_Frames]) ⟨h.cell 0 rfl, h.cell 1 rfl, trivial⟩ (fun w hc => rlm (cs := [.int .i64 p0.head_t_Base, .int .i64 p0.head_t_Frames]) rfl (by kernel_rfl) (by kernel_rfl) (by kernel_rfl) hc) ?_; clear hr a; intro a hr
    refine el [2, 3, 4, 7, 8, 9, 12, 13, 15, 17, 18, 20, 21] (b := B0) (off := 2) (cs := [.int .i64 p0.head_frame]) (fun _ hk => ⟨hk, fun w hD => hD.2.1⟩) 5 10 rfl (by kernel_rfl) (wn rfl) hr (.int .i64 p0.head_frame) ⟨h.cell 2 rfl, trivial⟩ (fun w hc => rl rfl (by kernel_rfl) (by kernel_rfl) hc.1) ?_; clear hr a; intro a hr
    refine el [2, 3, 4, 7, 8, 9, 12, 13, 15, 17, 18, 20, 21] (b := B0) (off := 7) (cs := [.int .i64 p0.slot]) (fun _ hk => ⟨hk, fun w hD => hD.2.2.1⟩) 4 14 rfl (by kernel_rfl) (wn rfl) hr (.int .i64 p0.slot) ⟨h.cell 7 rfl, trivial⟩ (fun w hc => rl rfl (by kernel_rfl) (by kernel_rfl) hc.1) ?_; clear hr a; intro a hr
    refine el [2, 3, 4, 7, 8, 9, 12, 13, 15, 17, 18, 20, 21] (b := B0) (off := 8) (cs := [.int .i64 p0.give]) (fun _ hk => ⟨hk, fun w hD => hD.2.2.2.1⟩) 3 19 rfl (by kernel_rfl) (wn rfl) hr (.int .i64 p0.give) ⟨h.cell 8 rfl, trivial⟩ (fun w hc => rl rfl (by kernel_rfl) (by kernel_rfl) hc.1) ?_; clear hr a; intro a hr
    refine e_one (fuel := 2) (i := 15) (by kernel_rfl) rfl ?_
    have hc := frames_Table__slot_ok (H := e7) (h := h)
    refine op_call (wn rfl) rfl rfl hr (f := 99) (args := #[.agg #[.int .i64 p0.head_t_Base, .int .i64 p0.head_t_Frames], .int .i64 p0.head_frame, .int .i64 p0.slot]) (by kernel_rfl) hc ?_; clear hc h
    rintro _ w ⟨rfl, h⟩; refine ⟨_, rfl, ?_⟩
    clear hr a; intro a hr
    refine wpList_nil ?_; refine then_normal ?_
    refine ⟨fun _ => ⟨⟨h.cell 0 rfl, h.cell 1 rfl, trivial⟩, ⟨h.cell 2 rfl, trivial⟩, ⟨h.cell 7 rfl, trivial⟩, ⟨h.cell 8 rfl, trivial⟩, trivial⟩, ?_⟩
    refine e_one (fuel := 1) (i := 23) (by kernel_rfl) rfl ?_
    replace h : Fit z (sepL (ob103 B1 p1 ca1 cc2 ca3 cc4 :: ro2 ca1 cc2 p1.cell :: ro96 ca3 cc4 p1.log :: ob50 B0 p0 :: L)) _ := h.sel 4 [1, 2, 3, 0] (by kernel_rfl) (by kernel_rfl)
    have hc := cells_Arena_Store_ok (H := e10) (h := h)
    refine op_call (wn rfl) rfl rfl hr (f := 125) (args := #[.pointer (some ⟨B1, 0, none⟩), .int .i64 r6, .int .i64 p0.give]) (by kernel_rfl) hc ?_; clear hc h
    rintro _ w ⟨caq11, ccq12, caq13, ccq14, rfl, h⟩; refine ⟨_, rfl, ?_⟩
    clear hr a; intro a hr
    refine wpList_nil ?_; refine then_normal ?_
    refine ⟨fun hE => absurd hE (by decide), ?_⟩
    refine ev 0 24 rfl (by kernel_rfl) (wn rfl) hr (.int .i64 r8) (fun w => by kernel_rfl) ?_; clear hr a; intro a hr
    refine e_end (by kernel_rfl) ?_
    refine then_normal ?_
    refine wp_ret ?_
    refine blk_ret ?_
    refine then_ret ?_
    refine end_ret1 (v := .int .i64 r8) rfl hr (by kernel_rfl) ?_
    replace h : Fit z (sepL (ob50 B0 p0 :: ob103 B1 S9 caq11 ccq12 caq13 ccq14 :: ro2 caq11 ccq12 S9.cell :: ro96 caq13 ccq14 S9.log :: L)) _ := h.sel 4 [3, 0, 1, 2] (by kernel_rfl) (by kernel_rfl)
    replace H := ej3 H; obtain ⟨rfl, rfl, rfl⟩ := H
    exact ⟨caq11, ccq12, caq13, ccq14, rfl, h⟩
  ·
    replace H := ifF c5 H
    refine cond_ff hr (b := (p0.head_stands == (1 : Int))) (beq_eq_false_iff_ne.mpr c5) ?_
    refine wp_seq ?_
    refine wp_region_lit ?_
    refine ovs [37, 36] [.bool (p0.head_stands == (2 : Int)), .bool (p0.head_stands == (2 : Int))] hr ⟨rfl, rfl⟩ (by kernel_rfl) ?_; clear hr a; intro a hr
    refine wpList_nil ?_
    refine then_normal ?_
    by_cases c15 : p0.head_stands = (2 : Int)
    ·
      replace H := ifT c15 H
      refine cond_tt hr (b := (p0.head_stands == (2 : Int))) (beq_iff_eq.mpr c15) ?_
      refine wp_seq ?_
      refine wp_region_lit ?_
      replace H := bd3 H; obtain ⟨r16, S17, S18, e19, H⟩ := H
      refine ovs [38, 39] [.pointer (some ⟨B0, 0, none⟩), .iface 26 (.pointer (some ⟨B1, 0, none⟩))] hr ⟨rfl, rfl⟩ (by kernel_rfl) ?_; clear hr a; intro a hr
      have hc := frames_Op_less_iface_ok (H := e19) (h := h)
      refine op_call (wn rfl) rfl rfl hr (f := 100) (args := #[.pointer (some ⟨B0, 0, none⟩), .iface 26 (.pointer (some ⟨B1, 0, none⟩)), .int .i64 10]) (by kernel_rfl) hc ?_; clear hc h
      rintro _ w ⟨caq20, ccq21, caq22, ccq23, rfl, h⟩; refine ⟨_, rfl, ?_⟩
      clear hr a; intro a hr
      refine ov hr (.int .i64 r16) (by kernel_rfl) ?_; clear hr a; intro a hr
      refine wpList_nil ?_
      refine then_normal ?_
      refine wp_ret ?_
      refine blk_ret ?_
      refine then_ret ?_
      refine end_ret1 (v := .int .i64 r16) rfl hr (by kernel_rfl) ?_
      replace H := ej3 H; obtain ⟨rfl, rfl, rfl⟩ := H
      exact ⟨caq20, ccq21, caq22, ccq23, rfl, h⟩
    ·
      replace H := ifF c15 H
      refine cond_ff hr (b := (p0.head_stands == (2 : Int))) (beq_eq_false_iff_ne.mpr c15) ?_
      refine wp_skip ?_
      refine blk_normal ?_
      refine then_normal ?_
      refine wp_seq ?_
      refine wp_region_lit ?_
      replace H := bd3 H; obtain ⟨r24, S25, S26, e27, H⟩ := H
      refine ovs [41, 42] [.pointer (some ⟨B0, 0, none⟩), .iface 26 (.pointer (some ⟨B1, 0, none⟩))] hr ⟨rfl, rfl⟩ (by kernel_rfl) ?_; clear hr a; intro a hr
      have hc := frames_Op_again_iface_ok (H := e27) (h := h)
      refine op_call (wn rfl) rfl rfl hr (f := 101) (args := #[.pointer (some ⟨B0, 0, none⟩), .iface 26 (.pointer (some ⟨B1, 0, none⟩)), .int .i64 11]) (by kernel_rfl) hc ?_; clear hc h
      rintro _ w ⟨caq28, ccq29, caq30, ccq31, rfl, h⟩; refine ⟨_, rfl, ?_⟩
      clear hr a; intro a hr
      refine ov hr (.int .i64 r24) (by kernel_rfl) ?_; clear hr a; intro a hr
      refine wpList_nil ?_
      refine then_normal ?_
      refine wp_ret ?_
      refine end_ret1 (v := .int .i64 r24) rfl hr (by kernel_rfl) ?_
      replace H := ej3 H; obtain ⟨rfl, rfl, rfl⟩ := H
      exact ⟨caq28, ccq29, caq30, ccq31, rfl, h⟩

/-- (*plunder/frames.Op).sync -/
def frames_Op_sync_iface (p0 : T_frames_Op) (p1 : T_cells_Arena) : Option (Int × T_frames_Op × T_cells_Arena) :=
  (if p0.head_stands = (1 : Int) then ob3 (frames_Op_less_iface p0 p1 12) (fun r6 S7 S8 => some (r6, S7, S8)) else ob3 (frames_Op_again_iface p0 p1 13) (fun r14 S15 S16 => some (r14, S15, S16)))
set_option maxRecDepth 100000 in
set_option maxHeartbeats 4000000 in
theorem frames_Op_sync_iface_ok {z w : World} {L : List HProp} {p0 : T_frames_Op} {p1 : T_cells_Arena} {B0 : Nat} {B1 : Nat} {ca1 : Option Addr} {cc2 : Nat} {ca3 : Option Addr} {cc4 : Nat} {r0 : Int} {q0 : T_frames_Op} {q1 : T_cells_Arena} (H : frames_Op_sync_iface p0 p1 = some (r0, q0, q1)) (h : Fit z (sepL (ob50 B0 p0 :: ob103 B1 p1 ca1 cc2 ca3 cc4 :: ro2 ca1 cc2 p1.cell :: ro96 ca3 cc4 p1.log :: L)) w)  :
    Calls Try.prog 84 #[.pointer (some ⟨B0, 0, none⟩), .iface 26 (.pointer (some ⟨B1, 0, none⟩))] w fun e w => ∃ caq1_1 : Option Addr, ∃ ccq1_2 : Nat, ∃ caq1_3 : Option Addr, ∃ ccq1_4 : Nat, e = .returned (.int .i64 r0) ∧ Fit z (sepL (ob50 B0 q0 :: ob103 B1 q1 caq1_1 ccq1_2 caq1_3 ccq1_4 :: ro2 caq1_1 ccq1_2 q1.cell :: ro96 caq1_3 ccq1_4 q1.log :: L)) w := by
  unfold frames_Op_sync_iface at H
  refine enter Try.func84 rfl 17 rfl rfl [(0, .pointer (some ⟨B0, 0, none⟩)), (1, .iface 26 (.pointer (some ⟨B1, 0, none⟩)))] ⟨rfl, rfl, trivial⟩ ?_
  intro j a hr
  refine wp_seq ?_
  refine wp_region_lit ?_
  refine ov hr (.int .i64 0) (by kernel_rfl) ?_; clear hr a; intro a hr
  refine wpList_nil ?_
  refine then_normal ?_
  refine wp_seq ?_
  refine wp_seq ?_
  refine wp_region_lit ?_
  refine ovs [5, 6, 7, 8] [.pointer (some ⟨B0, 0, none⟩), .pointer (some ⟨B0, 0, none⟩), .pointer (some ⟨B0, 0, none⟩), .pointer (some ⟨B0, 3, none⟩)] hr ⟨rfl, rfl⟩ (by kernel_rfl) ?_; clear hr a; intro a hr
  refine op_val (wn rfl) rfl rfl hr (v := .int .i64 p0.head_stands) (rl rfl (by kernel_rfl) (by kernel_rfl) (h.cell 3 rfl)) ?_; clear hr a; intro a hr
  refine ov hr (.bool (p0.head_stands == (1 : Int))) (by kernel_rfl) ?_; clear hr a; intro a hr
  refine wpList_nil ?_
  refine then_normal ?_
  by_cases c5 : p0.head_stands = (1 : Int)
  ·
    replace H := ifT c5 H
    refine cond_tt hr (b := (p0.head_stands == (1 : Int))) (beq_iff_eq.mpr c5) ?_
    refine wp_seq ?_
    refine wp_region_lit ?_
    replace H := bd3 H; obtain ⟨r6, S7, S8, e9, H⟩ := H
    refine ovs [11, 12] [.pointer (some ⟨B0, 0, none⟩), .iface 26 (.pointer (some ⟨B1, 0, none⟩))] hr ⟨rfl, rfl⟩ (by kernel_rfl) ?_; clear hr a; intro a hr
    have hc := frames_Op_less_iface_ok (H := e9) (h := h)
    refine op_call (wn rfl) rfl rfl hr (f := 100) (args := #[.pointer (some ⟨B0, 0, none⟩), .iface 26 (.pointer (some ⟨B1, 0, none⟩)), .int .i64 12]) (by kernel_rfl) hc ?_; clear hc h
    rintro _ w ⟨caq10, ccq11, caq12, ccq13, rfl, h⟩; refine ⟨_, rfl, ?_⟩
    clear hr a; intro a hr
    refine ov hr (.int .i64 r6) (by kernel_rfl) ?_; clear hr a; intro a hr
    refine wpList_nil ?_
    refine then_normal ?_
    refine wp_ret ?_
    refine then_ret ?_
    refine end_ret1 (v := .int .i64 r6) rfl hr (by kernel_rfl) ?_
    replace H := ej3 H; obtain ⟨rfl, rfl, rfl⟩ := H
    exact ⟨caq10, ccq11, caq12, ccq13, rfl, h⟩
  ·
    replace H := ifF c5 H
    refine cond_ff hr (b := (p0.head_stands == (1 : Int))) (beq_eq_false_iff_ne.mpr c5) ?_
    refine wp_skip ?_
    refine then_normal ?_
    refine wp_seq ?_
    refine wp_region_lit ?_
    replace H := bd3 H; obtain ⟨r14, S15, S16, e17, H⟩ := H
    refine ovs [14, 15] [.pointer (some ⟨B0, 0, none⟩), .iface 26 (.pointer (some ⟨B1, 0, none⟩))] hr ⟨rfl, rfl⟩ (by kernel_rfl) ?_; clear hr a; intro a hr
    have hc := frames_Op_again_iface_ok (H := e17) (h := h)
    refine op_call (wn rfl) rfl rfl hr (f := 101) (args := #[.pointer (some ⟨B0, 0, none⟩), .iface 26 (.pointer (some ⟨B1, 0, none⟩)), .int .i64 13]) (by kernel_rfl) hc ?_; clear hc h
    rintro _ w ⟨caq18, ccq19, caq20, ccq21, rfl, h⟩; refine ⟨_, rfl, ?_⟩
    clear hr a; intro a hr
    refine ov hr (.int .i64 r14) (by kernel_rfl) ?_; clear hr a; intro a hr
    refine wpList_nil ?_
    refine then_normal ?_
    refine wp_ret ?_
    refine end_ret1 (v := .int .i64 r14) rfl hr (by kernel_rfl) ?_
    replace H := ej3 H; obtain ⟨rfl, rfl, rfl⟩ := H
    exact ⟨caq18, ccq19, caq20, ccq21, rfl, h⟩

/-- (plunder/frames.Table).mark -/
def frames_Table__mark (p0 : T_frames_Table) (p1 : Int) : Option (Int) :=
  ob1 (frames_Table__join p0 p1) (fun r2 => some (wi (r2 + (1 : Int))))
set_option maxRecDepth 100000 in
set_option maxHeartbeats 4000000 in
theorem frames_Table__mark_ok {z w : World} {L : List HProp} {p0 : T_frames_Table} {p1 : Int} {r0 : Int} (H : frames_Table__mark p0 p1 = some r0) (h : Fit z (sepL (L)) w)  :
    Calls Try.prog 77 #[.agg #[.int .i64 p0.Base, .int .i64 p0.Frames], .int .i64 p1] w fun e w => e = .returned (.int .i64 r0) ∧ Fit z (sepL (L)) w := by
  unfold frames_Table__mark at H
  refine enter Try.func77 rfl 9 rfl rfl [(0, .agg #[.int .i64 p0.Base, .int .i64 p0.Frames]), (1, .int .i64 p1)] ⟨rfl, rfl, trivial⟩ ?_
  intro j a hr
  refine wp_seq ?_
  refine wp_region_lit ?_
  refine op_new (wn rfl) rfl rfl hr h (vf := fun b => .pointer (some ⟨b, 0, none⟩)) (cs := #[.int .i64 p0.Base, .int .i64 p0.Frames]) (T := 39) (by kernel_rfl) ?_; clear h hr a; intro b1 w a h hr
  refine ov hr (.int .i64 0) (by kernel_rfl) ?_; clear hr a; intro a hr
  refine wpList_nil ?_
  refine then_normal ?_
  refine wp_seq ?_
  refine wp_region_lit ?_
  refine op_val (wn rfl) rfl rfl hr (v := .agg #[.int .i64 p0.Base, .int .i64 p0.Frames]) (rlm (cs := [.int .i64 p0.Base, .int .i64 p0.Frames]) rfl (by kernel_rfl) (by kernel_rfl) (by kernel_rfl) ⟨h.cell 0 rfl, h.cell 1 rfl, trivial⟩) ?_; clear hr a; intro a hr
  replace H := bd1 H; obtain ⟨r2, e3, H⟩ := H
  refine ov hr (.int .i64 p1) (by kernel_rfl) ?_; clear hr a; intro a hr
  have hc := frames_Table__join_ok (H := e3) (h := h)
  refine op_call (wn rfl) rfl rfl hr (f := 54) (args := #[.agg #[.int .i64 p0.Base, .int .i64 p0.Frames], .int .i64 p1]) (by kernel_rfl) hc ?_; clear hc h
  rintro _ w ⟨rfl, h⟩; refine ⟨_, rfl, ?_⟩
  clear hr a; intro a hr
  refine ovs [8, 4] [.int .i64 (wi (r2 + (1 : Int))), .int .i64 (wi (r2 + (1 : Int)))] hr ⟨rfl, rfl⟩ (by kernel_rfl) ?_; clear hr a; intro a hr
  refine wpList_nil ?_
  refine then_normal ?_
  refine wp_ret ?_
  refine end_ret1 (v := .int .i64 (wi (r2 + (1 : Int)))) rfl hr (by kernel_rfl) ?_
  replace h : Fit z (sepL (L)) _ := h.sel 1 [] (by kernel_rfl) (by kernel_rfl)
  replace H := ej1 H; subst H
  exact ⟨rfl, h⟩

/-- (*plunder/frames.Op).start -/
def frames_Op_start_iface (p0 : T_frames_Op) (p1 : T_cells_Arena) : Option (Int × T_frames_Op × T_cells_Arena) :=
  ob1 (frames_Table__mark (⟨p0.head_t_Base, p0.head_t_Frames⟩ : T_frames_Table) p0.head_frame) (fun r5 => ob3 (cells_Arena_Add p1 r5 1) (fun r7 r8 S9 => (if r8 = (0 : Int) then ob1 (frames_head_end p0 14 r7) (fun S16 => some (r8, S16, S9)) else some (r8, p0, S9))))
set_option maxRecDepth 100000 in
set_option maxHeartbeats 4000000 in
theorem frames_Op_start_iface_ok {z w : World} {L : List HProp} {p0 : T_frames_Op} {p1 : T_cells_Arena} {B0 : Nat} {B1 : Nat} {ca1 : Option Addr} {cc2 : Nat} {ca3 : Option Addr} {cc4 : Nat} {r0 : Int} {q0 : T_frames_Op} {q1 : T_cells_Arena} (H : frames_Op_start_iface p0 p1 = some (r0, q0, q1)) (h : Fit z (sepL (ob50 B0 p0 :: ob103 B1 p1 ca1 cc2 ca3 cc4 :: ro2 ca1 cc2 p1.cell :: ro96 ca3 cc4 p1.log :: L)) w)  :
    Calls Try.prog 85 #[.pointer (some ⟨B0, 0, none⟩), .iface 26 (.pointer (some ⟨B1, 0, none⟩))] w fun e w => ∃ caq1_1 : Option Addr, ∃ ccq1_2 : Nat, ∃ caq1_3 : Option Addr, ∃ ccq1_4 : Nat, e = .returned (.int .i64 r0) ∧ Fit z (sepL (ob50 B0 q0 :: ob103 B1 q1 caq1_1 ccq1_2 caq1_3 ccq1_4 :: ro2 caq1_1 ccq1_2 q1.cell :: ro96 caq1_3 ccq1_4 q1.log :: L)) w := by
  unfold frames_Op_start_iface at H
  refine enter Try.func85 rfl 34 rfl rfl [(0, .pointer (some ⟨B0, 0, none⟩)), (1, .iface 26 (.pointer (some ⟨B1, 0, none⟩)))] ⟨rfl, rfl, trivial⟩ ?_
  intro j a hr
  refine wp_seq ?_
  refine wp_region_lit ?_
  refine ov hr (.int .i64 0) (by kernel_rfl) ?_; clear hr a; intro a hr
  refine wpList_nil ?_
  refine then_normal ?_
  refine wp_seq ?_
  replace H := bd1 H; obtain ⟨r5, e6, H⟩ := H
  replace H := bd3 H; obtain ⟨r7, r8, S9, e10, H⟩ := H
  refine reg_E (fun w => heldC w B0 0 [.int .i64 p0.head_t_Base, .int .i64 p0.head_t_Frames] ∧ heldC w B0 2 [.int .i64 p0.head_frame] ∧ True) [2, 3, 4, 7, 8, 9, 11, 12, 13] h (by kernel_rfl) ?_; intro w h
  change wpAnyE _ _ _ _ _ _ 21 (Array.replicate 21 false) a w
  have hgo : ∀ w w', CellsGo w w' → (heldC w B0 0 [.int .i64 p0.head_t_Base, .int .i64 p0.head_t_Frames] ∧ heldC w B0 2 [.int .i64 p0.head_frame] ∧ True) → heldC w' B0 0 [.int .i64 p0.head_t_Base, .int .i64 p0.head_t_Frames] ∧ heldC w' B0 2 [.int .i64 p0.head_frame] ∧ True := fun w w' g hD => ⟨heldC_go _ _ _ _ _ g hD.1, heldC_go _ _ _ _ _ g hD.2.1, trivial⟩
  refine ev 20 0 rfl (by kernel_rfl) (wn rfl) hr (.iface 26 (.pointer (some ⟨B1, 0, none⟩))) (fun w => by kernel_rfl) ?_; clear hr a; intro a hr
  refine ev 19 1 rfl (by kernel_rfl) (wn rfl) hr (.pointer (some ⟨B0, 0, none⟩)) (fun w => by kernel_rfl) ?_; clear hr a; intro a hr
  refine evD hgo ⟨⟨h.cell 0 rfl, h.cell 1 rfl, trivial⟩, ⟨h.cell 2 rfl, trivial⟩, trivial⟩ 18 2 rfl (by kernel_rfl) (wn rfl) hr (.pointer (some ⟨B0, 0, none⟩)) (fun w => by kernel_rfl) ?_; clear hr a; intro a hr
  refine evD hgo ⟨⟨h.cell 0 rfl, h.cell 1 rfl, trivial⟩, ⟨h.cell 2 rfl, trivial⟩, trivial⟩ 17 3 rfl (by kernel_rfl) (wn rfl) hr (.pointer (some ⟨B0, 0, none⟩)) (fun w => by kernel_rfl) ?_; clear hr a; intro a hr
  refine evD hgo ⟨⟨h.cell 0 rfl, h.cell 1 rfl, trivial⟩, ⟨h.cell 2 rfl, trivial⟩, trivial⟩ 16 4 rfl (by kernel_rfl) (wn rfl) hr (.pointer (some ⟨B0, 0, none⟩)) (fun w => by kernel_rfl) ?_; clear hr a; intro a hr
  refine ev 15 6 rfl (by kernel_rfl) (wn rfl) hr (.pointer (some ⟨B0, 0, none⟩)) (fun w => by kernel_rfl) ?_; clear hr a; intro a hr
  refine evD hgo ⟨⟨h.cell 0 rfl, h.cell 1 rfl, trivial⟩, ⟨h.cell 2 rfl, trivial⟩, trivial⟩ 14 7 rfl (by kernel_rfl) (wn rfl) hr (.pointer (some ⟨B0, 0, none⟩)) (fun w => by kernel_rfl) ?_; clear hr a; intro a hr
  refine evD hgo ⟨⟨h.cell 0 rfl, h.cell 1 rfl, trivial⟩, ⟨h.cell 2 rfl, trivial⟩, trivial⟩ 13 8 rfl (by kernel_rfl) (wn rfl) hr (.pointer (some ⟨B0, 0, none⟩)) (fun w => by kernel_rfl) ?_; clear hr a; intro a hr
  refine evD hgo ⟨⟨h.cell 0 rfl, h.cell 1 rfl, trivial⟩, ⟨h.cell 2 rfl, trivial⟩, trivial⟩ 12 9 rfl (by kernel_rfl) (wn rfl) hr (.pointer (some ⟨B0, 2, none⟩)) (fun w => by kernel_rfl) ?_; clear hr a; intro a hr
  refine evD hgo ⟨⟨h.cell 0 rfl, h.cell 1 rfl, trivial⟩, ⟨h.cell 2 rfl, trivial⟩, trivial⟩ 11 12 rfl (by kernel_rfl) (wn rfl) hr (.func (.method "Add") #[.iface 26 (.pointer (some ⟨B1, 0, none⟩))] #[]) (fun w => by kernel_rfl) ?_; clear hr a; intro a hr
  refine evD hgo ⟨⟨h.cell 0 rfl, h.cell 1 rfl, trivial⟩, ⟨h.cell 2 rfl, trivial⟩, trivial⟩ 10 13 rfl (by kernel_rfl) (wn rfl) hr (.func (.method "Add") #[.iface 26 (.pointer (some ⟨B1, 0, none⟩))] #[]) (fun w => by kernel_rfl) ?_; clear hr a; intro a hr
  refine ev 9 14 rfl (by kernel_rfl) (wn rfl) hr (.iface 26 (.pointer (some ⟨B1, 0, none⟩))) (fun w => by kernel_rfl) ?_; clear hr a; intro a hr
  refine el [2, 3, 4, 7, 8, 9, 11, 12, 13] (b := B0) (off := 0) (cs := [.int .i64 p0.head_t_Base, .int .i64 p0.head_t_Frames]) (fun _ hk => ⟨hk, fun w hD => hD.1⟩) 8 5 rfl (by kernel_rfl) (wn rfl) hr (.agg #[.int .i64 p0.head_t_Base, .int .i64 p0.head_t_Frames]) ⟨h.cell 0 rfl, h.cell 1 rfl, trivial⟩ (fun w hc => rlm (cs := [.int .i64 p0.head_t_Base, .int .i64 p0.head_t_Frames]) rfl (by kernel_rfl) (by kernel_rfl) (by kernel_rfl) hc) ?_; clear hr a; intro a hr
  refine el [2, 3, 4, 7, 8, 9, 11, 12, 13] (b := B0) (off := 2) (cs := [.int .i64 p0.head_frame]) (fun _ hk => ⟨hk, fun w hD => hD.2.1⟩) 7 10 rfl (by kernel_rfl) (wn rfl) hr (.int .i64 p0.head_frame) ⟨h.cell 2 rfl, trivial⟩ (fun w hc => rl rfl (by kernel_rfl) (by kernel_rfl) hc.1) ?_; clear hr a; intro a hr
  refine e_one (fuel := 6) (i := 11) (by kernel_rfl) rfl ?_
  have hc := frames_Table__mark_ok (H := e6) (h := h)
  refine op_call (wn rfl) rfl rfl hr (f := 77) (args := #[.agg #[.int .i64 p0.head_t_Base, .int .i64 p0.head_t_Frames], .int .i64 p0.head_frame]) (by kernel_rfl) hc ?_; clear hc h
  rintro _ w ⟨rfl, h⟩; refine ⟨_, rfl, ?_⟩
  clear hr a; intro a hr
  refine wpList_nil ?_; refine then_normal ?_
  refine ⟨fun _ => ⟨⟨h.cell 0 rfl, h.cell 1 rfl, trivial⟩, ⟨h.cell 2 rfl, trivial⟩, trivial⟩, ?_⟩
  refine e_one (fuel := 5) (i := 15) (by kernel_rfl) rfl ?_
  replace h : Fit z (sepL (ob103 B1 p1 ca1 cc2 ca3 cc4 :: ro2 ca1 cc2 p1.cell :: ro96 ca3 cc4 p1.log :: ob50 B0 p0 :: L)) _ := h.sel 4 [1, 2, 3, 0] (by kernel_rfl) (by kernel_rfl)
  have hc := cells_Arena_Add_ok (H := e10) (h := h)
  refine op_call (wn rfl) rfl rfl hr (f := 122) (args := #[.pointer (some ⟨B1, 0, none⟩), .int .i64 r5, .int .i64 1]) (by kernel_rfl) hc ?_; clear hc h
  rintro _ w ⟨caq11, ccq12, caq13, ccq14, rfl, h⟩; refine ⟨_, rfl, ?_⟩
  clear hr a; intro a hr
  refine wpList_nil ?_; refine then_normal ?_
  refine ⟨fun hE => absurd hE (by decide), ?_⟩
  refine ev 4 16 rfl (by kernel_rfl) (wn rfl) hr (.tuple #[.int .i64 r7, .int .i64 r8]) (fun w => by kernel_rfl) ?_; clear hr a; intro a hr
  refine ev 3 17 rfl (by kernel_rfl) (wn rfl) hr (.int .i64 r7) (fun w => by kernel_rfl) ?_; clear hr a; intro a hr
  refine ev 2 18 rfl (by kernel_rfl) (wn rfl) hr (.int .i64 r8) (fun w => by kernel_rfl) ?_; clear hr a; intro a hr
  refine ev 1 19 rfl (by kernel_rfl) (wn rfl) hr (.int .i64 r7) (fun w => by kernel_rfl) ?_; clear hr a; intro a hr
  refine ev 0 20 rfl (by kernel_rfl) (wn rfl) hr (.int .i64 r8) (fun w => by kernel_rfl) ?_; clear hr a; intro a hr
  refine e_end (by kernel_rfl) ?_
  refine then_normal ?_
  refine wp_seq ?_
  refine wp_seq ?_
  refine wp_region_lit ?_
  refine ovs [26, 27] [.int .i64 r8, .bool (r8 == (0 : Int))] hr ⟨rfl, rfl⟩ (by kernel_rfl) ?_; clear hr a; intro a hr
  refine wpList_nil ?_
  refine then_normal ?_
  by_cases c15 : r8 = (0 : Int)
  ·
    replace H := ifT c15 H
    refine cond_tt hr (b := (r8 == (0 : Int))) (beq_iff_eq.mpr c15) ?_
    refine wp_region_lit ?_
    replace H := bd1 H; obtain ⟨S16, e17, H⟩ := H
    refine ovs [28, 29, 30, 31] [.pointer (some ⟨B0, 0, none⟩), .pointer (some ⟨B0, 0, none⟩), .pointer (some ⟨B0, 0, none⟩), .int .i64 r7] hr ⟨rfl, rfl⟩ (by kernel_rfl) ?_; clear hr a; intro a hr
    replace h : Fit z (sepL (ob50 B0 p0 :: ob103 B1 S9 caq11 ccq12 caq13 ccq14 :: ro2 caq11 ccq12 S9.cell :: ro96 caq13 ccq14 S9.log :: L)) _ := h.sel 4 [3, 0, 1, 2] (by kernel_rfl) (by kernel_rfl)
    have hc := frames_head_end_ok (H := e17) (h := h)
    refine op_call (wn rfl) rfl rfl hr (f := 56) (args := #[.pointer (some ⟨B0, 0, none⟩), .int .i64 14, .int .i64 r7]) (by kernel_rfl) hc ?_; clear hc h
    rintro _ w ⟨rfl, h⟩; refine ⟨_, rfl, ?_⟩
    clear hr a; intro a hr
    refine wpList_nil ?_
    refine then_normal ?_
    refine wp_seq ?_
    refine wp_region_lit ?_
    refine ovs [33, 4] [.int .i64 r8, .int .i64 r8] hr ⟨rfl, rfl⟩ (by kernel_rfl) ?_; clear hr a; intro a hr
    refine wpList_nil ?_
    refine then_normal ?_
    refine wp_ret ?_
    refine end_ret1 (v := .int .i64 r8) rfl hr (by kernel_rfl) ?_
    replace H := ej3 H; obtain ⟨rfl, rfl, rfl⟩ := H
    exact ⟨caq11, ccq12, caq13, ccq14, rfl, h⟩
  ·
    replace H := ifF c15 H
    refine cond_ff hr (b := (r8 == (0 : Int))) (beq_eq_false_iff_ne.mpr c15) ?_
    refine wp_skip ?_
    refine then_normal ?_
    refine wp_seq ?_
    refine wp_region_lit ?_
    refine ovs [33, 4] [.int .i64 r8, .int .i64 r8] hr ⟨rfl, rfl⟩ (by kernel_rfl) ?_; clear hr a; intro a hr
    refine wpList_nil ?_
    refine then_normal ?_
    refine wp_ret ?_
    refine end_ret1 (v := .int .i64 r8) rfl hr (by kernel_rfl) ?_
    replace h : Fit z (sepL (ob50 B0 p0 :: ob103 B1 S9 caq11 ccq12 caq13 ccq14 :: ro2 caq11 ccq12 S9.cell :: ro96 caq13 ccq14 S9.log :: L)) _ := h.sel 4 [3, 0, 1, 2] (by kernel_rfl) (by kernel_rfl)
    replace H := ej3 H; obtain ⟨rfl, rfl, rfl⟩ := H
    exact ⟨caq11, ccq12, caq13, ccq14, rfl, h⟩

/-- (*plunder/cells.Arena).Load -/
def cells_Arena_Load (p0 : T_cells_Arena) (p1 : Int) : Option (Int × Int × T_cells_Arena) :=
  ob1 (cells_Arena_outside p0 p1) (fun r5 => (if r5 = true then some (0, 20, p0) else if inr_ p1 p0.cell.length then ob1 (cells_Arena_note p0 0 p1 (at_ p0.cell p1.toNat) 0 true) (fun S9 => some ((at_ p0.cell p1.toNat), 0, S9)) else none))
set_option maxRecDepth 100000 in
set_option maxHeartbeats 4000000 in
theorem cells_Arena_Load_ok {z w : World} {L : List HProp} {p0 : T_cells_Arena} {p1 : Int} {B0 : Nat} {ca1 : Option Addr} {cc2 : Nat} {ca3 : Option Addr} {cc4 : Nat} {r0 : Int} {r1 : Int} {q0 : T_cells_Arena} (H : cells_Arena_Load p0 p1 = some (r0, r1, q0)) (h : Fit z (sepL (ob103 B0 p0 ca1 cc2 ca3 cc4 :: ro2 ca1 cc2 p0.cell :: ro96 ca3 cc4 p0.log :: L)) w)  :
    Calls Try.prog 123 #[.pointer (some ⟨B0, 0, none⟩), .int .i64 p1] w fun e w => ∃ caq0_1 : Option Addr, ∃ ccq0_2 : Nat, ∃ caq0_3 : Option Addr, ∃ ccq0_4 : Nat, e = .returned (.tuple #[.int .i64 r0, .int .i64 r1]) ∧ Fit z (sepL (ob103 B0 q0 caq0_1 ccq0_2 caq0_3 ccq0_4 :: ro2 caq0_1 ccq0_2 q0.cell :: ro96 caq0_3 ccq0_4 q0.log :: L)) w := by
  unfold cells_Arena_Load at H
  refine enter Try.func123 rfl 22 rfl rfl [(0, .pointer (some ⟨B0, 0, none⟩)), (1, .int .i64 p1)] ⟨rfl, rfl, trivial⟩ ?_
  intro j a hr
  refine wp_seq ?_
  refine wp_region_lit ?_
  refine ovs [4, 5] [.int .i64 0, .int .i64 0] hr ⟨rfl, rfl⟩ (by kernel_rfl) ?_; clear hr a; intro a hr
  refine wpList_nil ?_
  refine then_normal ?_
  refine wp_seq ?_
  refine wp_seq ?_
  refine wp_region_lit ?_
  replace H := bd1 H; obtain ⟨r5, e6, H⟩ := H
  refine ovs [7, 8] [.pointer (some ⟨B0, 0, none⟩), .int .i64 p1] hr ⟨rfl, rfl⟩ (by kernel_rfl) ?_; clear hr a; intro a hr
  have hc := cells_Arena_outside_ok (H := e6) (h := h)
  refine op_call (wn rfl) rfl rfl hr (f := 126) (args := #[.pointer (some ⟨B0, 0, none⟩), .int .i64 p1]) (by kernel_rfl) hc ?_; clear hc h
  rintro _ w ⟨rfl, h⟩; refine ⟨_, rfl, ?_⟩
  clear hr a; intro a hr
  refine wpList_nil ?_
  refine then_normal ?_
  by_cases c7 : r5 = true
  ·
    replace H := ifT c7 H
    refine cond_tt hr (b := r5) (c7) ?_
    refine wp_seq ?_
    refine wp_region_lit ?_
    refine ovs [4, 5] [.int .i64 0, .int .i64 20] hr ⟨rfl, rfl⟩ (by kernel_rfl) ?_; clear hr a; intro a hr
    refine wpList_nil ?_
    refine then_normal ?_
    refine wp_ret ?_
    refine then_ret ?_
    refine end_ret2 (v := .int .i64 0) (v' := .int .i64 20) rfl hr (by kernel_rfl) (by kernel_rfl) ?_
    replace H := ej3 H; obtain ⟨rfl, rfl, rfl⟩ := H
    exact ⟨ca1, cc2, ca3, cc4, rfl, h⟩
  ·
    replace H := ifF c7 H
    refine cond_ff hr (b := r5) (bF c7) ?_
    refine wp_skip ?_
    refine then_normal ?_
    refine wp_seq ?_
    refine wp_region_lit ?_
    refine ovs [10, 11, 12] [.pointer (some ⟨B0, 0, none⟩), .pointer (some ⟨B0, 0, none⟩), .pointer (some ⟨B0, 2, none⟩)] hr ⟨rfl, rfl⟩ (by kernel_rfl) ?_; clear hr a; intro a hr
    refine op_val (wn rfl) rfl rfl hr (v := .slice ca1 p0.cell.length cc2) (rl rfl (by kernel_rfl) (by kernel_rfl) (h.cell 2 rfl)) ?_; clear hr a; intro a hr
    replace H := gd H; obtain ⟨c8, H⟩ := H
    refine ov hr (.int .i64 p1) (by kernel_rfl) ?_; clear hr a; intro a hr
    refine op_val (wn rfl) rfl rfl hr (v := .pointer (some ⟨blk ca1, p1.toNat * 1, none⟩)) (ri_row (k := .i64) (E := 2) rfl (by kernel_rfl) (by kernel_rfl) (by kernel_rfl) (by kernel_rfl) (h.pick 1) c8) ?_; clear hr a; intro a hr
    refine op_val (wn rfl) rfl rfl hr (v := .int .i64 (at_ p0.cell p1.toNat)) (rl rfl (by kernel_rfl) (by kernel_rfl) ((h.pick 1).row_cell encZ_i64_ok (f := 0) (at_ok c8) rfl)) ?_; clear hr a; intro a hr
    refine ov hr (.int .i64 (at_ p0.cell p1.toNat)) (by kernel_rfl) ?_; clear hr a; intro a hr
    refine wpList_nil ?_
    refine then_normal ?_
    refine wp_seq ?_
    refine wp_region_lit ?_
    replace H := bd1 H; obtain ⟨S9, e10, H⟩ := H
    refine ovs [17, 18, 19] [.pointer (some ⟨B0, 0, none⟩), .int .i64 p1, .int .i64 (at_ p0.cell p1.toNat)] hr ⟨rfl, rfl⟩ (by kernel_rfl) ?_; clear hr a; intro a hr
    have hc := cells_Arena_note_ok (H := e10) (h := h)
    refine op_call (wn rfl) rfl rfl hr (f := 63) (args := #[.pointer (some ⟨B0, 0, none⟩), .int .i64 0, .int .i64 p1, .int .i64 (at_ p0.cell p1.toNat), .int .i64 0, .bool true]) (by kernel_rfl) hc ?_; clear hc h
    rintro _ w ⟨caq11, ccq12, caq13, ccq14, rfl, h⟩; refine ⟨_, rfl, ?_⟩
    clear hr a; intro a hr
    refine wpList_nil ?_
    refine then_normal ?_
    refine wp_seq ?_
    refine wp_region_lit ?_
    refine ovs [21, 4, 5] [.int .i64 (at_ p0.cell p1.toNat), .int .i64 (at_ p0.cell p1.toNat), .int .i64 0] hr ⟨rfl, rfl⟩ (by kernel_rfl) ?_; clear hr a; intro a hr
    refine wpList_nil ?_
    refine then_normal ?_
    refine wp_ret ?_
    refine end_ret2 (v := .int .i64 (at_ p0.cell p1.toNat)) (v' := .int .i64 0) rfl hr (by kernel_rfl) (by kernel_rfl) ?_
    replace H := ej3 H; obtain ⟨rfl, rfl, rfl⟩ := H
    exact ⟨caq11, ccq12, caq13, ccq14, rfl, h⟩

/-- (*plunder/frames.Op).fetch -/
def frames_Op_fetch_iface (p0 : T_frames_Op) (p1 : T_cells_Arena) : Option (Int × T_frames_Op × T_cells_Arena) :=
  ob1 (frames_Table__slot (⟨p0.head_t_Base, p0.head_t_Frames⟩ : T_frames_Table) p0.head_frame p0.slot) (fun r5 => ob3 (cells_Arena_Load p1 r5) (fun r7 r8 S9 => (if r8 = (0 : Int) then ob1 (frames_head_end p0 15 r7) (fun S16 => some (r8, S16, S9)) else some (r8, p0, S9))))
set_option maxRecDepth 100000 in
set_option maxHeartbeats 4000000 in
theorem frames_Op_fetch_iface_ok {z w : World} {L : List HProp} {p0 : T_frames_Op} {p1 : T_cells_Arena} {B0 : Nat} {B1 : Nat} {ca1 : Option Addr} {cc2 : Nat} {ca3 : Option Addr} {cc4 : Nat} {r0 : Int} {q0 : T_frames_Op} {q1 : T_cells_Arena} (H : frames_Op_fetch_iface p0 p1 = some (r0, q0, q1)) (h : Fit z (sepL (ob50 B0 p0 :: ob103 B1 p1 ca1 cc2 ca3 cc4 :: ro2 ca1 cc2 p1.cell :: ro96 ca3 cc4 p1.log :: L)) w)  :
    Calls Try.prog 86 #[.pointer (some ⟨B0, 0, none⟩), .iface 26 (.pointer (some ⟨B1, 0, none⟩))] w fun e w => ∃ caq1_1 : Option Addr, ∃ ccq1_2 : Nat, ∃ caq1_3 : Option Addr, ∃ ccq1_4 : Nat, e = .returned (.int .i64 r0) ∧ Fit z (sepL (ob50 B0 q0 :: ob103 B1 q1 caq1_1 ccq1_2 caq1_3 ccq1_4 :: ro2 caq1_1 ccq1_2 q1.cell :: ro96 caq1_3 ccq1_4 q1.log :: L)) w := by
  unfold frames_Op_fetch_iface at H
  refine enter Try.func86 rfl 38 rfl rfl [(0, .pointer (some ⟨B0, 0, none⟩)), (1, .iface 26 (.pointer (some ⟨B1, 0, none⟩)))] ⟨rfl, rfl, trivial⟩ ?_
  intro j a hr
  refine wp_seq ?_
  refine wp_region_lit ?_
  refine ov hr (.int .i64 0) (by kernel_rfl) ?_; clear hr a; intro a hr
  refine wpList_nil ?_
  refine then_normal ?_
  refine wp_seq ?_
  replace H := bd1 H; obtain ⟨r5, e6, H⟩ := H
  replace H := bd3 H; obtain ⟨r7, r8, S9, e10, H⟩ := H
  refine reg_E (fun w => heldC w B0 0 [.int .i64 p0.head_t_Base, .int .i64 p0.head_t_Frames] ∧ heldC w B0 2 [.int .i64 p0.head_frame] ∧ heldC w B0 7 [.int .i64 p0.slot] ∧ True) [2, 3, 4, 7, 8, 9, 12, 13, 15, 16, 17] h (by kernel_rfl) ?_; intro w h
  change wpAnyE _ _ _ _ _ _ 25 (Array.replicate 25 false) a w
  have hgo : ∀ w w', CellsGo w w' → (heldC w B0 0 [.int .i64 p0.head_t_Base, .int .i64 p0.head_t_Frames] ∧ heldC w B0 2 [.int .i64 p0.head_frame] ∧ heldC w B0 7 [.int .i64 p0.slot] ∧ True) → heldC w' B0 0 [.int .i64 p0.head_t_Base, .int .i64 p0.head_t_Frames] ∧ heldC w' B0 2 [.int .i64 p0.head_frame] ∧ heldC w' B0 7 [.int .i64 p0.slot] ∧ True := fun w w' g hD => ⟨heldC_go _ _ _ _ _ g hD.1, heldC_go _ _ _ _ _ g hD.2.1, heldC_go _ _ _ _ _ g hD.2.2.1, trivial⟩
  refine ev 24 0 rfl (by kernel_rfl) (wn rfl) hr (.iface 26 (.pointer (some ⟨B1, 0, none⟩))) (fun w => by kernel_rfl) ?_; clear hr a; intro a hr
  refine ev 23 1 rfl (by kernel_rfl) (wn rfl) hr (.pointer (some ⟨B0, 0, none⟩)) (fun w => by kernel_rfl) ?_; clear hr a; intro a hr
  refine evD hgo ⟨⟨h.cell 0 rfl, h.cell 1 rfl, trivial⟩, ⟨h.cell 2 rfl, trivial⟩, ⟨h.cell 7 rfl, trivial⟩, trivial⟩ 22 2 rfl (by kernel_rfl) (wn rfl) hr (.pointer (some ⟨B0, 0, none⟩)) (fun w => by kernel_rfl) ?_; clear hr a; intro a hr
  refine evD hgo ⟨⟨h.cell 0 rfl, h.cell 1 rfl, trivial⟩, ⟨h.cell 2 rfl, trivial⟩, ⟨h.cell 7 rfl, trivial⟩, trivial⟩ 21 3 rfl (by kernel_rfl) (wn rfl) hr (.pointer (some ⟨B0, 0, none⟩)) (fun w => by kernel_rfl) ?_; clear hr a; intro a hr
  refine evD hgo ⟨⟨h.cell 0 rfl, h.cell 1 rfl, trivial⟩, ⟨h.cell 2 rfl, trivial⟩, ⟨h.cell 7 rfl, trivial⟩, trivial⟩ 20 4 rfl (by kernel_rfl) (wn rfl) hr (.pointer (some ⟨B0, 0, none⟩)) (fun w => by kernel_rfl) ?_; clear hr a; intro a hr
  refine ev 19 6 rfl (by kernel_rfl) (wn rfl) hr (.pointer (some ⟨B0, 0, none⟩)) (fun w => by kernel_rfl) ?_; clear hr a; intro a hr
  refine evD hgo ⟨⟨h.cell 0 rfl, h.cell 1 rfl, trivial⟩, ⟨h.cell 2 rfl, trivial⟩, ⟨h.cell 7 rfl, trivial⟩, trivial⟩ 18 7 rfl (by kernel_rfl) (wn rfl) hr (.pointer (some ⟨B0, 0, none⟩)) (fun w => by kernel_rfl) ?_; clear hr a; intro a hr
  refine evD hgo ⟨⟨h.cell 0 rfl, h.cell 1 rfl, trivial⟩, ⟨h.cell 2 rfl, trivial⟩, ⟨h.cell 7 rfl, trivial⟩, trivial⟩ 17 8 rfl (by kernel_rfl) (wn rfl) hr (.pointer (some ⟨B0, 0, none⟩)) (fun w => by kernel_rfl) ?_; clear hr a; intro a hr
  refine evD hgo ⟨⟨h.cell 0 rfl, h.cell 1 rfl, trivial⟩, ⟨h.cell 2 rfl, trivial⟩, ⟨h.cell 7 rfl, trivial⟩, trivial⟩ 16 9 rfl (by kernel_rfl) (wn rfl) hr (.pointer (some ⟨B0, 2, none⟩)) (fun w => by kernel_rfl) ?_; clear hr a; intro a hr
  refine ev 15 11 rfl (by kernel_rfl) (wn rfl) hr (.pointer (some ⟨B0, 0, none⟩)) (fun w => by kernel_rfl) ?_; clear hr a; intro a hr
  refine evD hgo ⟨⟨h.cell 0 rfl, h.cell 1 rfl, trivial⟩, ⟨h.cell 2 rfl, trivial⟩, ⟨h.cell 7 rfl, trivial⟩, trivial⟩ 14 12 rfl (by kernel_rfl) (wn rfl) hr (.pointer (some ⟨B0, 0, none⟩)) (fun w => by kernel_rfl) ?_; clear hr a; intro a hr
  refine evD hgo ⟨⟨h.cell 0 rfl, h.cell 1 rfl, trivial⟩, ⟨h.cell 2 rfl, trivial⟩, ⟨h.cell 7 rfl, trivial⟩, trivial⟩ 13 13 rfl (by kernel_rfl) (wn rfl) hr (.pointer (some ⟨B0, 7, none⟩)) (fun w => by kernel_rfl) ?_; clear hr a; intro a hr
  refine evD hgo ⟨⟨h.cell 0 rfl, h.cell 1 rfl, trivial⟩, ⟨h.cell 2 rfl, trivial⟩, ⟨h.cell 7 rfl, trivial⟩, trivial⟩ 12 16 rfl (by kernel_rfl) (wn rfl) hr (.func (.method "Load") #[.iface 26 (.pointer (some ⟨B1, 0, none⟩))] #[]) (fun w => by kernel_rfl) ?_; clear hr a; intro a hr
  refine evD hgo ⟨⟨h.cell 0 rfl, h.cell 1 rfl, trivial⟩, ⟨h.cell 2 rfl, trivial⟩, ⟨h.cell 7 rfl, trivial⟩, trivial⟩ 11 17 rfl (by kernel_rfl) (wn rfl) hr (.func (.method "Load") #[.iface 26 (.pointer (some ⟨B1, 0, none⟩))] #[]) (fun w => by kernel_rfl) ?_; clear hr a; intro a hr
  refine ev 10 18 rfl (by kernel_rfl) (wn rfl) hr (.iface 26 (.pointer (some ⟨B1, 0, none⟩))) (fun w => by kernel_rfl) ?_; clear hr a; intro a hr
  refine el [2, 3, 4, 7, 8, 9, 12, 13, 15, 16, 17] (b := B0) (off := 0) (cs := [.int .i64 p0.head_t_Base, .int .i64 p0.head_t_Frames]) (fun _ hk => ⟨hk, fun w hD => hD.1⟩) 9 5 rfl (by kernel_rfl) (wn rfl) hr (.agg #[.int .i64 p0.head_t_Base, .int .i64 p0.head_t_Frames]) ⟨h.cell 0 rfl, h.cell 1 rfl, trivial⟩ (fun w hc => rlm (cs := [.int .i64 p0.head_t_Base, .int .i64 p0.head_t_Frames]) rfl (by kernel_rfl) (by kernel_rfl) (by kernel_rfl) hc) ?_; clear hr a; intro a hr
  refine el [2, 3, 4, 7, 8, 9, 12, 13, 15, 16, 17] (b := B0) (off := 2) (cs := [.int .i64 p0.head_frame]) (fun _ hk => ⟨hk, fun w hD => hD.2.1⟩) 8 10 rfl (by kernel_rfl) (wn rfl) hr (.int .i64 p0.head_frame) ⟨h.cell 2 rfl, trivial⟩ (fun w hc => rl rfl (by kernel_rfl) (by kernel_rfl) hc.1) ?_; clear hr a; intro a hr
  refine el [2, 3, 4, 7, 8, 9, 12, 13, 15, 16, 17] (b := B0) (off := 7) (cs := [.int .i64 p0.slot]) (fun _ hk => ⟨hk, fun w hD => hD.2.2.1⟩) 7 14 rfl (by kernel_rfl) (wn rfl) hr (.int .i64 p0.slot) ⟨h.cell 7 rfl, trivial⟩ (fun w hc => rl rfl (by kernel_rfl) (by kernel_rfl) hc.1) ?_; clear hr a; intro a hr
  refine e_one (fuel := 6) (i := 15) (by kernel_rfl) rfl ?_
  have hc := frames_Table__slot_ok (H := e6) (h := h)
  refine op_call (wn rfl) rfl rfl hr (f := 99) (args := #[.agg #[.int .i64 p0.head_t_Base, .int .i64 p0.head_t_Frames], .int .i64 p0.head_frame, .int .i64 p0.slot]) (by kernel_rfl) hc ?_; clear hc h
  rintro _ w ⟨rfl, h⟩; refine ⟨_, rfl, ?_⟩
  clear hr a; intro a hr
  refine wpList_nil ?_; refine then_normal ?_
  refine ⟨fun _ => ⟨⟨h.cell 0 rfl, h.cell 1 rfl, trivial⟩, ⟨h.cell 2 rfl, trivial⟩, ⟨h.cell 7 rfl, trivial⟩, trivial⟩, ?_⟩
  refine e_one (fuel := 5) (i := 19) (by kernel_rfl) rfl ?_
  replace h : Fit z (sepL (ob103 B1 p1 ca1 cc2 ca3 cc4 :: ro2 ca1 cc2 p1.cell :: ro96 ca3 cc4 p1.log :: ob50 B0 p0 :: L)) _ := h.sel 4 [1, 2, 3, 0] (by kernel_rfl) (by kernel_rfl)
  have hc := cells_Arena_Load_ok (H := e10) (h := h)
  refine op_call (wn rfl) rfl rfl hr (f := 123) (args := #[.pointer (some ⟨B1, 0, none⟩), .int .i64 r5]) (by kernel_rfl) hc ?_; clear hc h
  rintro _ w ⟨caq11, ccq12, caq13, ccq14, rfl, h⟩; refine ⟨_, rfl, ?_⟩
  clear hr a; intro a hr
  refine wpList_nil ?_; refine then_normal ?_
  refine ⟨fun hE => absurd hE (by decide), ?_⟩
  refine ev 4 20 rfl (by kernel_rfl) (wn rfl) hr (.tuple #[.int .i64 r7, .int .i64 r8]) (fun w => by kernel_rfl) ?_; clear hr a; intro a hr
  refine ev 3 21 rfl (by kernel_rfl) (wn rfl) hr (.int .i64 r7) (fun w => by kernel_rfl) ?_; clear hr a; intro a hr
  refine ev 2 22 rfl (by kernel_rfl) (wn rfl) hr (.int .i64 r8) (fun w => by kernel_rfl) ?_; clear hr a; intro a hr
  refine ev 1 23 rfl (by kernel_rfl) (wn rfl) hr (.int .i64 r7) (fun w => by kernel_rfl) ?_; clear hr a; intro a hr
  refine ev 0 24 rfl (by kernel_rfl) (wn rfl) hr (.int .i64 r8) (fun w => by kernel_rfl) ?_; clear hr a; intro a hr
  refine e_end (by kernel_rfl) ?_
  refine then_normal ?_
  refine wp_seq ?_
  refine wp_seq ?_
  refine wp_region_lit ?_
  refine ovs [30, 31] [.int .i64 r8, .bool (r8 == (0 : Int))] hr ⟨rfl, rfl⟩ (by kernel_rfl) ?_; clear hr a; intro a hr
  refine wpList_nil ?_
  refine then_normal ?_
  by_cases c15 : r8 = (0 : Int)
  ·
    replace H := ifT c15 H
    refine cond_tt hr (b := (r8 == (0 : Int))) (beq_iff_eq.mpr c15) ?_
    refine wp_region_lit ?_
    replace H := bd1 H; obtain ⟨S16, e17, H⟩ := H
    refine ovs [32, 33, 34, 35] [.pointer (some ⟨B0, 0, none⟩), .pointer (some ⟨B0, 0, none⟩), .pointer (some ⟨B0, 0, none⟩), .int .i64 r7] hr ⟨rfl, rfl⟩ (by kernel_rfl) ?_; clear hr a; intro a hr
    replace h : Fit z (sepL (ob50 B0 p0 :: ob103 B1 S9 caq11 ccq12 caq13 ccq14 :: ro2 caq11 ccq12 S9.cell :: ro96 caq13 ccq14 S9.log :: L)) _ := h.sel 4 [3, 0, 1, 2] (by kernel_rfl) (by kernel_rfl)
    have hc := frames_head_end_ok (H := e17) (h := h)
    refine op_call (wn rfl) rfl rfl hr (f := 56) (args := #[.pointer (some ⟨B0, 0, none⟩), .int .i64 15, .int .i64 r7]) (by kernel_rfl) hc ?_; clear hc h
    rintro _ w ⟨rfl, h⟩; refine ⟨_, rfl, ?_⟩
    clear hr a; intro a hr
    refine wpList_nil ?_
    refine then_normal ?_
    refine wp_seq ?_
    refine wp_region_lit ?_
    refine ovs [37, 4] [.int .i64 r8, .int .i64 r8] hr ⟨rfl, rfl⟩ (by kernel_rfl) ?_; clear hr a; intro a hr
    refine wpList_nil ?_
    refine then_normal ?_
    refine wp_ret ?_
    refine end_ret1 (v := .int .i64 r8) rfl hr (by kernel_rfl) ?_
    replace H := ej3 H; obtain ⟨rfl, rfl, rfl⟩ := H
    exact ⟨caq11, ccq12, caq13, ccq14, rfl, h⟩
  ·
    replace H := ifF c15 H
    refine cond_ff hr (b := (r8 == (0 : Int))) (beq_eq_false_iff_ne.mpr c15) ?_
    refine wp_skip ?_
    refine then_normal ?_
    refine wp_seq ?_
    refine wp_region_lit ?_
    refine ovs [37, 4] [.int .i64 r8, .int .i64 r8] hr ⟨rfl, rfl⟩ (by kernel_rfl) ?_; clear hr a; intro a hr
    refine wpList_nil ?_
    refine then_normal ?_
    refine wp_ret ?_
    refine end_ret1 (v := .int .i64 r8) rfl hr (by kernel_rfl) ?_
    replace h : Fit z (sepL (ob50 B0 p0 :: ob103 B1 S9 caq11 ccq12 caq13 ccq14 :: ro2 caq11 ccq12 S9.cell :: ro96 caq13 ccq14 S9.log :: L)) _ := h.sel 4 [3, 0, 1, 2] (by kernel_rfl) (by kernel_rfl)
    replace H := ej3 H; obtain ⟨rfl, rfl, rfl⟩ := H
    exact ⟨caq11, ccq12, caq13, ccq14, rfl, h⟩


end Go.Proofs.Ytnghahgfcaolbaa.Mo
