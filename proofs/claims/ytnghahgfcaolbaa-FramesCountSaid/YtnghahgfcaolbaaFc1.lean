/- what the functions compute, as plain Lean functions, and that they do -/
import Derived.Test.YtnghahgfcaolbaaFc0
namespace Go.Proofs.Ytnghahgfcaolbaa.Mo
open Go Go.RowKit Go.Proofs.Ytnghahgfcaolbaa.SL Go.Proofs.Ytnghahgfcaolbaa.GX
set_option linter.unusedVariables false
set_option linter.unusedSimpArgs false

/-- plunder/plunderlaw8.mod -/
def plunderlaw8_mod (p0 : Int) (p1 : Int) : Option (Int) :=
  if p1 ≠ 0 then (if (p0.tmod p1) < (0 : Int) then some (wi ((p0.tmod p1) + p1)) else some (p0.tmod p1)) else none
set_option maxRecDepth 100000 in
set_option maxHeartbeats 4000000 in
theorem plunderlaw8_mod_ok {z w : World} {L : List HProp} {p0 : Int} {p1 : Int} {r0 : Int} (H : plunderlaw8_mod p0 p1 = some r0) (h : Fit z (sepL (L)) w)  :
    Calls Try.prog 29 #[.int .i64 p0, .int .i64 p1] w fun e w => e = .returned (.int .i64 r0) ∧ Fit z (sepL (L)) w := by
  unfold plunderlaw8_mod at H
  refine enter Try.func29 rfl 15 rfl rfl [(0, .int .i64 p0), (1, .int .i64 p1)] ⟨rfl, rfl, trivial⟩ ?_
  intro j a hr
  refine wp_seq ?_
  refine wp_region_lit ?_
  refine ov hr (.int .i64 0) (by kernel_rfl) ?_; clear hr a; intro a hr
  refine wpList_nil ?_
  refine then_normal ?_
  refine wp_seq ?_
  refine wp_region_lit ?_
  replace H := gd H; obtain ⟨c1, H⟩ := H
  refine ovs [6, 7] [.int .i64 p0, .int .i64 p1] hr ⟨rfl, rfl⟩ (by kernel_rfl) ?_; clear hr a; intro a hr
  refine op_val (wn rfl) rfl rfl hr (v := .int .i64 (p0.tmod p1)) (rrem rfl (by kernel_rfl) (by kernel_rfl) c1) ?_; clear hr a; intro a hr
  refine ov hr (.int .i64 (p0.tmod p1)) (by kernel_rfl) ?_; clear hr a; intro a hr
  refine wpList_nil ?_
  refine then_normal ?_
  refine wp_seq ?_
  refine wp_seq ?_
  refine wp_region_lit ?_
  refine ovs [9, 10] [.int .i64 (p0.tmod p1), .bool (decide ((p0.tmod p1) < (0 : Int)))] hr ⟨rfl, rfl⟩ (by kernel_rfl) ?_; clear hr a; intro a hr
  refine wpList_nil ?_
  refine then_normal ?_
  by_cases c2 : (p0.tmod p1) < (0 : Int)
  ·
    replace H := ifT c2 H
    refine cond_tt hr (b := (decide ((p0.tmod p1) < (0 : Int)))) (decide_eq_true c2) ?_
    refine wp_region_lit ?_
    refine ovs [11, 12, 13, 5] [.int .i64 (p0.tmod p1), .int .i64 p1, .int .i64 (wi ((p0.tmod p1) + p1)), .int .i64 (wi ((p0.tmod p1) + p1))] hr ⟨rfl, rfl⟩ (by kernel_rfl) ?_; clear hr a; intro a hr
    refine wpList_nil ?_
    refine then_normal ?_
    refine wp_seq ?_
    refine wp_region_lit ?_
    refine ovs [14, 4] [.int .i64 (wi ((p0.tmod p1) + p1)), .int .i64 (wi ((p0.tmod p1) + p1))] hr ⟨rfl, rfl⟩ (by kernel_rfl) ?_; clear hr a; intro a hr
    refine wpList_nil ?_
    refine then_normal ?_
    refine wp_ret ?_
    refine end_ret1 (v := .int .i64 (wi ((p0.tmod p1) + p1))) rfl hr (by kernel_rfl) ?_
    replace H := ej1 H; subst H
    exact ⟨rfl, h⟩
  ·
    replace H := ifF c2 H
    refine cond_ff hr (b := (decide ((p0.tmod p1) < (0 : Int)))) (decide_eq_false c2) ?_
    refine wp_skip ?_
    refine then_normal ?_
    refine wp_seq ?_
    refine wp_region_lit ?_
    refine ovs [14, 4] [.int .i64 (p0.tmod p1), .int .i64 (p0.tmod p1)] hr ⟨rfl, rfl⟩ (by kernel_rfl) ?_; clear hr a; intro a hr
    refine wpList_nil ?_
    refine then_normal ?_
    refine wp_ret ?_
    refine end_ret1 (v := .int .i64 (p0.tmod p1)) rfl hr (by kernel_rfl) ?_
    replace H := ej1 H; subst H
    exact ⟨rfl, h⟩

/-- plunder/frames.Cells -/
def frames_Cells (p0 : Int) : Option (Int) :=
  (if p0 < (1 : Int) then some 0 else (if p0 > (4096 : Int) then some 0 else some (wi ((1 : Int) + (wi (p0 * (10 : Int)))))))
set_option maxRecDepth 100000 in
set_option maxHeartbeats 4000000 in
theorem frames_Cells_ok {z w : World} {L : List HProp} {p0 : Int} {r0 : Int} (H : frames_Cells p0 = some r0) (h : Fit z (sepL (L)) w)  :
    Calls Try.prog 15 #[.int .i64 p0] w fun e w => e = .returned (.int .i64 r0) ∧ Fit z (sepL (L)) w := by
  unfold frames_Cells at H
  refine enter Try.func15 rfl 12 rfl rfl [(0, .int .i64 p0)] ⟨rfl, trivial⟩ ?_
  intro j a hr
  refine wp_seq ?_
  refine wp_region_lit ?_
  refine ov hr (.int .i64 0) (by kernel_rfl) ?_; clear hr a; intro a hr
  refine wpList_nil ?_
  refine then_normal ?_
  refine wp_seq ?_
  refine wp_seq ?_
  refine wp_region_lit ?_
  refine ovs [3, 4, 5] [.int .i64 p0, .bool (decide (p0 < (1 : Int))), .bool (decide (p0 < (1 : Int)))] hr ⟨rfl, rfl⟩ (by kernel_rfl) ?_; clear hr a; intro a hr
  by_cases c1 : p0 < (1 : Int)
  ·
    replace H := ifT c1 H
    refine op_off ((wg hr rfl rfl rfl (b' := (decide (p0 < (1 : Int)))) (by kernel_rfl)).trans (by rw [show (decide (p0 < (1 : Int))) = true from (decide_eq_true c1)]; rfl)) rfl rfl hr ?_; clear hr a; intro a hr
    refine op_off ((wg hr rfl rfl rfl (b' := (decide (p0 < (1 : Int)))) (by kernel_rfl)).trans (by rw [show (decide (p0 < (1 : Int))) = true from (decide_eq_true c1)]; rfl)) rfl rfl hr ?_; clear hr a; intro a hr
    refine op_val (wn rfl) rfl rfl hr (v := .bool true) (rp_t (b := (decide (p0 < (1 : Int)))) rfl (by kernel_rfl) (decide_eq_true c1) (by kernel_rfl)) ?_; clear hr a; intro a hr
    refine wpList_nil ?_
    refine then_normal ?_
    refine cond_tt hr (b := true) rfl ?_
    refine wp_seq ?_
    refine wp_region_lit ?_
    refine ov hr (.int .i64 0) (by kernel_rfl) ?_; clear hr a; intro a hr
    refine wpList_nil ?_
    refine then_normal ?_
    refine wp_ret ?_
    refine then_ret ?_
    refine end_ret1 (v := .int .i64 0) rfl hr (by kernel_rfl) ?_
    replace H := ej1 H; subst H
    exact ⟨rfl, h⟩
  ·
    replace H := ifF c1 H
    refine op_val ((wg hr rfl rfl rfl (b' := (decide (p0 < (1 : Int)))) (by kernel_rfl)).trans (by rw [show (decide (p0 < (1 : Int))) = false from (decide_eq_false c1)]; rfl)) rfl rfl hr (v := .int .i64 p0) (by kernel_rfl) ?_; clear hr a; intro a hr
    refine op_val ((wg hr rfl rfl rfl (b' := (decide (p0 < (1 : Int)))) (by kernel_rfl)).trans (by rw [show (decide (p0 < (1 : Int))) = false from (decide_eq_false c1)]; rfl)) rfl rfl hr (v := .bool (decide (p0 > (4096 : Int)))) (by kernel_rfl) ?_; clear hr a; intro a hr
    refine op_val (wn rfl) rfl rfl hr (v := .bool (decide (p0 > (4096 : Int)))) (rp_f (b := (decide (p0 < (1 : Int)))) rfl (by kernel_rfl) (decide_eq_false c1) (by kernel_rfl)) ?_; clear hr a; intro a hr
    refine wpList_nil ?_
    refine then_normal ?_
    by_cases c2 : p0 > (4096 : Int)
    ·
      replace H := ifT c2 H
      refine cond_tt hr (b := (decide (p0 > (4096 : Int)))) (decide_eq_true c2) ?_
      refine wp_seq ?_
      refine wp_region_lit ?_
      refine ov hr (.int .i64 0) (by kernel_rfl) ?_; clear hr a; intro a hr
      refine wpList_nil ?_
      refine then_normal ?_
      refine wp_ret ?_
      refine then_ret ?_
      refine end_ret1 (v := .int .i64 0) rfl hr (by kernel_rfl) ?_
      replace H := ej1 H; subst H
      exact ⟨rfl, h⟩
    ·
      replace H := ifF c2 H
      refine cond_ff hr (b := (decide (p0 > (4096 : Int)))) (decide_eq_false c2) ?_
      refine wp_skip ?_
      refine then_normal ?_
      refine wp_seq ?_
      refine wp_region_lit ?_
      refine ovs [9, 10, 11, 2] [.int .i64 p0, .int .i64 (wi (p0 * (10 : Int))), .int .i64 (wi ((1 : Int) + (wi (p0 * (10 : Int))))), .int .i64 (wi ((1 : Int) + (wi (p0 * (10 : Int)))))] hr ⟨rfl, rfl⟩ (by kernel_rfl) ?_; clear hr a; intro a hr
      refine wpList_nil ?_
      refine then_normal ?_
      refine wp_ret ?_
      refine end_ret1 (v := .int .i64 (wi ((1 : Int) + (wi (p0 * (10 : Int)))))) rfl hr (by kernel_rfl) ?_
      replace H := ej1 H; subst H
      exact ⟨rfl, h⟩

/-- plunder/cells.good -/
def cells_good (p0 : Int) : Option (Bool) :=
  (if p0 ≥ (0 : Int) then some (decide (p0 ≤ (1048576 : Int))) else some false)
set_option maxRecDepth 100000 in
set_option maxHeartbeats 4000000 in
theorem cells_good_ok {z w : World} {L : List HProp} {p0 : Int} {r0 : Bool} (H : cells_good p0 = some r0) (h : Fit z (sepL (L)) w)  :
    Calls Try.prog 53 #[.int .i64 p0] w fun e w => e = .returned (.bool r0) ∧ Fit z (sepL (L)) w := by
  unfold cells_good at H
  refine enter Try.func53 rfl 9 rfl rfl [(0, .int .i64 p0)] ⟨rfl, trivial⟩ ?_
  intro j a hr
  refine wp_seq ?_
  refine wp_region_lit ?_
  refine ov hr (.bool false) (by kernel_rfl) ?_; clear hr a; intro a hr
  refine wpList_nil ?_
  refine then_normal ?_
  refine wp_seq ?_
  refine wp_region_lit ?_
  refine ovs [3, 4, 5] [.int .i64 p0, .bool (decide (p0 ≥ (0 : Int))), .bool (decide (p0 ≥ (0 : Int)))] hr ⟨rfl, rfl⟩ (by kernel_rfl) ?_; clear hr a; intro a hr
  by_cases c1 : p0 ≥ (0 : Int)
  ·
    replace H := ifT c1 H
    refine op_val ((wg hr rfl rfl rfl (b' := (decide (p0 ≥ (0 : Int)))) (by kernel_rfl)).trans (by rw [show (decide (p0 ≥ (0 : Int))) = true from (decide_eq_true c1)]; rfl)) rfl rfl hr (v := .int .i64 p0) (by kernel_rfl) ?_; clear hr a; intro a hr
    refine op_val ((wg hr rfl rfl rfl (b' := (decide (p0 ≥ (0 : Int)))) (by kernel_rfl)).trans (by rw [show (decide (p0 ≥ (0 : Int))) = true from (decide_eq_true c1)]; rfl)) rfl rfl hr (v := .bool (decide (p0 ≤ (1048576 : Int)))) (by kernel_rfl) ?_; clear hr a; intro a hr
    refine op_val (wn rfl) rfl rfl hr (v := .bool (decide (p0 ≤ (1048576 : Int)))) (rp_t (b := (decide (p0 ≥ (0 : Int)))) rfl (by kernel_rfl) (decide_eq_true c1) (by kernel_rfl)) ?_; clear hr a; intro a hr
    refine ov hr (.bool (decide (p0 ≤ (1048576 : Int)))) (by kernel_rfl) ?_; clear hr a; intro a hr
    refine wpList_nil ?_
    refine then_normal ?_
    refine wp_ret ?_
    refine end_ret1 (v := .bool (decide (p0 ≤ (1048576 : Int)))) rfl hr (by kernel_rfl) ?_
    replace H := ej1 H; subst H
    exact ⟨rfl, h⟩
  ·
    replace H := ifF c1 H
    refine op_off ((wg hr rfl rfl rfl (b' := (decide (p0 ≥ (0 : Int)))) (by kernel_rfl)).trans (by rw [show (decide (p0 ≥ (0 : Int))) = false from (decide_eq_false c1)]; rfl)) rfl rfl hr ?_; clear hr a; intro a hr
    refine op_off ((wg hr rfl rfl rfl (b' := (decide (p0 ≥ (0 : Int)))) (by kernel_rfl)).trans (by rw [show (decide (p0 ≥ (0 : Int))) = false from (decide_eq_false c1)]; rfl)) rfl rfl hr ?_; clear hr a; intro a hr
    refine op_val (wn rfl) rfl rfl hr (v := .bool false) (rp_f (b := (decide (p0 ≥ (0 : Int)))) rfl (by kernel_rfl) (decide_eq_false c1) (by kernel_rfl)) ?_; clear hr a; intro a hr
    refine ov hr (.bool false) (by kernel_rfl) ?_; clear hr a; intro a hr
    refine wpList_nil ?_
    refine then_normal ?_
    refine wp_ret ?_
    refine end_ret1 (v := .bool false) rfl hr (by kernel_rfl) ?_
    replace H := ej1 H; subst H
    exact ⟨rfl, h⟩

/-- plunder/cells.New -/
def cells_New (p0 : Int) : Option ((Option T_cells_Arena) × Int) :=
  ob1 (cells_good p0) (fun r1 => (if r1 = true then some (some (⟨p0, 0, ([] : List Int), ([] : List T_api_Access), 0, false⟩ : T_cells_Arena), 0) else some (none, 3)))
set_option maxRecDepth 100000 in
set_option maxHeartbeats 4000000 in
theorem cells_New_ok0 {z w : World} {L : List HProp} {p0 : Int} {r0 : T_cells_Arena} {r1 : Int} (H : cells_New p0 = some ((some r0), r1)) (h : Fit z (sepL (L)) w)  :
    Calls Try.prog 14 #[.int .i64 p0] w fun e w => ∃ Bn0 : Nat, ∃ car0_1 : Option Addr, ∃ ccr0_2 : Nat, ∃ car0_3 : Option Addr, ∃ ccr0_4 : Nat, e = .returned (.tuple #[.pointer (some ⟨Bn0, 0, none⟩), .int .i64 r1]) ∧ Fit z (sepL (ob103 Bn0 r0 car0_1 ccr0_2 car0_3 ccr0_4 :: ro2 car0_1 ccr0_2 r0.cell :: ro96 car0_3 ccr0_4 r0.log :: L)) w := by
  unfold cells_New at H
  refine enter Try.func14 rfl 11 rfl rfl [(0, .int .i64 p0)] ⟨rfl, trivial⟩ ?_
  intro j a hr
  refine wp_seq ?_
  refine wp_region_lit ?_
  refine ovs [2, 3] [.pointer none, .int .i64 0] hr ⟨rfl, rfl⟩ (by kernel_rfl) ?_; clear hr a; intro a hr
  refine wpList_nil ?_
  refine then_normal ?_
  refine wp_seq ?_
  refine wp_seq ?_
  refine wp_region_lit ?_
  replace H := bd1 H; obtain ⟨r1, e2, H⟩ := H
  refine ov hr (.int .i64 p0) (by kernel_rfl) ?_; clear hr a; intro a hr
  have hc := cells_good_ok (H := e2) (h := h)
  refine op_call (wn rfl) rfl rfl hr (f := 53) (args := #[.int .i64 p0]) (by kernel_rfl) hc ?_; clear hc h
  rintro _ w ⟨rfl, h⟩; refine ⟨_, rfl, ?_⟩
  clear hr a; intro a hr
  refine ov hr (.bool (!r1)) (by kernel_rfl) ?_; clear hr a; intro a hr
  refine wpList_nil ?_
  refine then_normal ?_
  by_cases c3 : r1 = true
  ·
    replace H := ifT c3 H
    refine cond_ff hr (b := (!r1)) (by rw [show r1 = true from (c3)]; rfl) ?_
    refine wp_skip ?_
    refine then_normal ?_
    refine wp_seq ?_
    refine wp_region_lit ?_
    refine ovs [7, 8, 9] [.int .i64 p0, .agg #[.int .i64 p0, .int .i64 0], .agg #[.int .i64 p0, .int .i64 0, .slice none 0 0, .slice none 0 0, .int .i64 0, .bool false]] hr ⟨rfl, rfl⟩ (by kernel_rfl) ?_; clear hr a; intro a hr
    refine op_new (wn rfl) rfl rfl hr h (vf := fun b => .pointer (some ⟨b, 0, none⟩)) (cs := #[.int .i64 p0, .int .i64 0, .slice none 0 0, .slice none 0 0, .int .i64 0, .bool false]) (T := 103) (by kernel_rfl) ?_; clear h hr a; intro b4 w a h hr
    refine ovs [2, 3] [.pointer (some ⟨b4, 0, none⟩), .int .i64 0] hr ⟨rfl, rfl⟩ (by kernel_rfl) ?_; clear hr a; intro a hr
    refine wpList_nil ?_
    refine then_normal ?_
    refine wp_ret ?_
    refine end_ret2 (v := .pointer (some ⟨b4, 0, none⟩)) (v' := .int .i64 0) rfl hr (by kernel_rfl) (by kernel_rfl) ?_
    replace h : Fit z (sepL (rowOf 2 1 encZ_i64 (.slice none 0 0) ([] : List Int) :: pts b4 (.cells #[.int .i64 p0, .int .i64 0, .slice none 0 0, .slice none 0 0, .int .i64 0, .bool false] 103) :: L)) _ := h.row_nil
    replace h : Fit z (sepL (rowOf 96 6 enc_T_api_Access (.slice none 0 0) ([] : List T_api_Access) :: rowOf 2 1 encZ_i64 (.slice none 0 0) ([] : List Int) :: pts b4 (.cells #[.int .i64 p0, .int .i64 0, .slice none 0 0, .slice none 0 0, .int .i64 0, .bool false] 103) :: L)) _ := h.row_nil
    replace h : Fit z (sepL (pts b4 (.cells #[.int .i64 p0, .int .i64 0, .slice none 0 0, .slice none 0 0, .int .i64 0, .bool false] 103) :: rowOf 2 1 encZ_i64 (.slice none 0 0) ([] : List Int) :: rowOf 96 6 enc_T_api_Access (.slice none 0 0) ([] : List T_api_Access) :: L)) _ := h.sel 3 [2, 1, 0] (by kernel_rfl) (by kernel_rfl)
    cases H
    exact ⟨b4, none, 0, none, 0, rfl, h⟩
  ·
    replace H := ifF c3 H
    refine cond_tt hr (b := (!r1)) (by rw [show r1 = false from (bF c3)]; rfl) ?_
    refine wp_seq ?_
    refine wp_region_lit ?_
    refine ovs [2, 3] [.pointer none, .int .i64 3] hr ⟨rfl, rfl⟩ (by kernel_rfl) ?_; clear hr a; intro a hr
    refine wpList_nil ?_
    refine then_normal ?_
    refine wp_ret ?_
    refine then_ret ?_
    refine end_ret2 (v := .pointer none) (v' := .int .i64 3) rfl hr (by kernel_rfl) (by kernel_rfl) ?_
    cases H

set_option maxRecDepth 100000 in
set_option maxHeartbeats 4000000 in
theorem cells_New_ok1 {z w : World} {L : List HProp} {p0 : Int} {r1 : Int} (H : cells_New p0 = some (none, r1)) (h : Fit z (sepL (L)) w)  :
    Calls Try.prog 14 #[.int .i64 p0] w fun e w => e = .returned (.tuple #[.pointer none, .int .i64 r1]) ∧ Fit z (sepL (L)) w := by
  unfold cells_New at H
  refine enter Try.func14 rfl 11 rfl rfl [(0, .int .i64 p0)] ⟨rfl, trivial⟩ ?_
  intro j a hr
  refine wp_seq ?_
  refine wp_region_lit ?_
  refine ovs [2, 3] [.pointer none, .int .i64 0] hr ⟨rfl, rfl⟩ (by kernel_rfl) ?_; clear hr a; intro a hr
  refine wpList_nil ?_
  refine then_normal ?_
  refine wp_seq ?_
  refine wp_seq ?_
  refine wp_region_lit ?_
  replace H := bd1 H; obtain ⟨r1, e2, H⟩ := H
  refine ov hr (.int .i64 p0) (by kernel_rfl) ?_; clear hr a; intro a hr
  have hc := cells_good_ok (H := e2) (h := h)
  refine op_call (wn rfl) rfl rfl hr (f := 53) (args := #[.int .i64 p0]) (by kernel_rfl) hc ?_; clear hc h
  rintro _ w ⟨rfl, h⟩; refine ⟨_, rfl, ?_⟩
  clear hr a; intro a hr
  refine ov hr (.bool (!r1)) (by kernel_rfl) ?_; clear hr a; intro a hr
  refine wpList_nil ?_
  refine then_normal ?_
  by_cases c3 : r1 = true
  ·
    replace H := ifT c3 H
    refine cond_ff hr (b := (!r1)) (by rw [show r1 = true from (c3)]; rfl) ?_
    refine wp_skip ?_
    refine then_normal ?_
    refine wp_seq ?_
    refine wp_region_lit ?_
    refine ovs [7, 8, 9] [.int .i64 p0, .agg #[.int .i64 p0, .int .i64 0], .agg #[.int .i64 p0, .int .i64 0, .slice none 0 0, .slice none 0 0, .int .i64 0, .bool false]] hr ⟨rfl, rfl⟩ (by kernel_rfl) ?_; clear hr a; intro a hr
    refine op_new (wn rfl) rfl rfl hr h (vf := fun b => .pointer (some ⟨b, 0, none⟩)) (cs := #[.int .i64 p0, .int .i64 0, .slice none 0 0, .slice none 0 0, .int .i64 0, .bool false]) (T := 103) (by kernel_rfl) ?_; clear h hr a; intro b4 w a h hr
    refine ovs [2, 3] [.pointer (some ⟨b4, 0, none⟩), .int .i64 0] hr ⟨rfl, rfl⟩ (by kernel_rfl) ?_; clear hr a; intro a hr
    refine wpList_nil ?_
    refine then_normal ?_
    refine wp_ret ?_
    refine end_ret2 (v := .pointer (some ⟨b4, 0, none⟩)) (v' := .int .i64 0) rfl hr (by kernel_rfl) (by kernel_rfl) ?_
    replace h : Fit z (sepL (rowOf 2 1 encZ_i64 (.slice none 0 0) ([] : List Int) :: pts b4 (.cells #[.int .i64 p0, .int .i64 0, .slice none 0 0, .slice none 0 0, .int .i64 0, .bool false] 103) :: L)) _ := h.row_nil
    replace h : Fit z (sepL (rowOf 96 6 enc_T_api_Access (.slice none 0 0) ([] : List T_api_Access) :: rowOf 2 1 encZ_i64 (.slice none 0 0) ([] : List Int) :: pts b4 (.cells #[.int .i64 p0, .int .i64 0, .slice none 0 0, .slice none 0 0, .int .i64 0, .bool false] 103) :: L)) _ := h.row_nil
    cases H
  ·
    replace H := ifF c3 H
    refine cond_tt hr (b := (!r1)) (by rw [show r1 = false from (bF c3)]; rfl) ?_
    refine wp_seq ?_
    refine wp_region_lit ?_
    refine ovs [2, 3] [.pointer none, .int .i64 3] hr ⟨rfl, rfl⟩ (by kernel_rfl) ?_; clear hr a; intro a hr
    refine wpList_nil ?_
    refine then_normal ?_
    refine wp_ret ?_
    refine then_ret ?_
    refine end_ret2 (v := .pointer none) (v' := .int .i64 3) rfl hr (by kernel_rfl) (by kernel_rfl) ?_
    cases H
    exact ⟨rfl, h⟩

/-- (*plunder/cells.ledger).refuse -/
def cells_ledger_refuse (p0 : T_cells_Arena) (p1 : Int) : Option (Int) :=
  (if p1 < (1 : Int) then some 21 else (if p1 > (wi (p0.ledger_size - p0.ledger_mark)) then some 22 else some 0))
set_option maxRecDepth 100000 in
set_option maxHeartbeats 4000000 in
theorem cells_ledger_refuse_ok {z w : World} {L : List HProp} {p0 : T_cells_Arena} {p1 : Int} {B0 : Nat} {ca1 : Option Addr} {cc2 : Nat} {ca3 : Option Addr} {cc4 : Nat} {r0 : Int} (H : cells_ledger_refuse p0 p1 = some r0) (h : Fit z (sepL (ob103 B0 p0 ca1 cc2 ca3 cc4 :: ro2 ca1 cc2 p0.cell :: ro96 ca3 cc4 p0.log :: L)) w)  :
    Calls Try.prog 61 #[.pointer (some ⟨B0, 0, none⟩), .int .i64 p1] w fun e w => e = .returned (.int .i64 r0) ∧ Fit z (sepL (ob103 B0 p0 ca1 cc2 ca3 cc4 :: ro2 ca1 cc2 p0.cell :: ro96 ca3 cc4 p0.log :: L)) w := by
  unfold cells_ledger_refuse at H
  refine enter Try.func61 rfl 22 rfl rfl [(0, .pointer (some ⟨B0, 0, none⟩)), (1, .int .i64 p1)] ⟨rfl, rfl, trivial⟩ ?_
  intro j a hr
  refine wp_seq ?_
  refine wp_region_lit ?_
  refine ov hr (.int .i64 0) (by kernel_rfl) ?_; clear hr a; intro a hr
  refine wpList_nil ?_
  refine then_normal ?_
  refine wp_seq ?_
  refine wp_seq ?_
  refine wp_region_lit ?_
  refine ovs [5, 6] [.int .i64 p1, .bool (decide (p1 < (1 : Int)))] hr ⟨rfl, rfl⟩ (by kernel_rfl) ?_; clear hr a; intro a hr
  refine wpList_nil ?_
  refine then_normal ?_
  by_cases c5 : p1 < (1 : Int)
  ·
    replace H := ifT c5 H
    refine cond_tt hr (b := (decide (p1 < (1 : Int)))) (decide_eq_true c5) ?_
    refine wp_seq ?_
    refine wp_region_lit ?_
    refine ov hr (.int .i64 21) (by kernel_rfl) ?_; clear hr a; intro a hr
    refine wpList_nil ?_
    refine then_normal ?_
    refine wp_ret ?_
    refine then_ret ?_
    refine end_ret1 (v := .int .i64 21) rfl hr (by kernel_rfl) ?_
    replace H := ej1 H; subst H
    exact ⟨rfl, h⟩
  ·
    replace H := ifF c5 H
    refine cond_ff hr (b := (decide (p1 < (1 : Int)))) (decide_eq_false c5) ?_
    refine wp_skip ?_
    refine then_normal ?_
    refine wp_seq ?_
    refine wp_seq ?_
    refine reg_E (fun w => heldC w B0 0 [.int .i64 p0.ledger_size] ∧ heldC w B0 1 [.int .i64 p0.ledger_mark] ∧ True) [1, 5, 6, 9, 10] h (by kernel_rfl) ?_; intro w h
    change wpAnyE _ _ _ _ _ _ 15 (Array.replicate 15 false) a w
    have hgo : ∀ w w', CellsGo w w' → (heldC w B0 0 [.int .i64 p0.ledger_size] ∧ heldC w B0 1 [.int .i64 p0.ledger_mark] ∧ True) → heldC w' B0 0 [.int .i64 p0.ledger_size] ∧ heldC w' B0 1 [.int .i64 p0.ledger_mark] ∧ True := fun w w' g hD => ⟨heldC_go _ _ _ _ _ g hD.1, heldC_go _ _ _ _ _ g hD.2.1, trivial⟩
    refine ev 14 0 rfl (by kernel_rfl) (wn rfl) hr (.pointer (some ⟨B0, 0, none⟩)) (fun w => by kernel_rfl) ?_; clear hr a; intro a hr
    refine evD hgo ⟨⟨h.cell 0 rfl, trivial⟩, ⟨h.cell 1 rfl, trivial⟩, trivial⟩ 13 1 rfl (by kernel_rfl) (wn rfl) hr (.bool false) (fun w => by kernel_rfl) ?_; clear hr a; intro a hr
    refine ev 12 2 rfl (by kernel_rfl) (wn rfl) hr (.bool false) (fun w => by kernel_rfl) ?_; clear hr a; intro a hr
    refine ev 11 3 rfl (by kernel_rfl) ((wg hr rfl rfl rfl (b' := false) (by kernel_rfl)).trans rfl) hr (.int .i64 p1) (fun w => by kernel_rfl) ?_; clear hr a; intro a hr
    refine ev 10 4 rfl (by kernel_rfl) ((wg hr rfl rfl rfl (b' := false) (by kernel_rfl)).trans rfl) hr (.pointer (some ⟨B0, 0, none⟩)) (fun w => by kernel_rfl) ?_; clear hr a; intro a hr
    refine evD hgo ⟨⟨h.cell 0 rfl, trivial⟩, ⟨h.cell 1 rfl, trivial⟩, trivial⟩ 9 5 rfl (by kernel_rfl) ((wg hr rfl rfl rfl (b' := false) (by kernel_rfl)).trans rfl) hr (.pointer (some ⟨B0, 0, none⟩)) (fun w => by kernel_rfl) ?_; clear hr a; intro a hr
    refine evD hgo ⟨⟨h.cell 0 rfl, trivial⟩, ⟨h.cell 1 rfl, trivial⟩, trivial⟩ 8 6 rfl (by kernel_rfl) ((wg hr rfl rfl rfl (b' := false) (by kernel_rfl)).trans rfl) hr (.pointer (some ⟨B0, 0, none⟩)) (fun w => by kernel_rfl) ?_; clear hr a; intro a hr
    refine ev 7 8 rfl (by kernel_rfl) ((wg hr rfl rfl rfl (b' := false) (by kernel_rfl)).trans rfl) hr (.pointer (some ⟨B0, 0, none⟩)) (fun w => by kernel_rfl) ?_; clear hr a; intro a hr
    refine evD hgo ⟨⟨h.cell 0 rfl, trivial⟩, ⟨h.cell 1 rfl, trivial⟩, trivial⟩ 6 9 rfl (by kernel_rfl) ((wg hr rfl rfl rfl (b' := false) (by kernel_rfl)).trans rfl) hr (.pointer (some ⟨B0, 0, none⟩)) (fun w => by kernel_rfl) ?_; clear hr a; intro a hr
    refine evD hgo ⟨⟨h.cell 0 rfl, trivial⟩, ⟨h.cell 1 rfl, trivial⟩, trivial⟩ 5 10 rfl (by kernel_rfl) ((wg hr rfl rfl rfl (b' := false) (by kernel_rfl)).trans rfl) hr (.pointer (some ⟨B0, 1, none⟩)) (fun w => by kernel_rfl) ?_; clear hr a; intro a hr
    refine el [1, 5, 6, 9, 10] (b := B0) (off := 0) (cs := [.int .i64 p0.ledger_size]) (fun _ hk => ⟨hk, fun w hD => hD.1⟩) 4 7 rfl (by kernel_rfl) ((wg hr rfl rfl rfl (b' := false) (by kernel_rfl)).trans rfl) hr (.int .i64 p0.ledger_size) ⟨h.cell 0 rfl, trivial⟩ (fun w hc => rl rfl (by kernel_rfl) (by kernel_rfl) hc.1) ?_; clear hr a; intro a hr
    refine el [1, 5, 6, 9, 10] (b := B0) (off := 1) (cs := [.int .i64 p0.ledger_mark]) (fun _ hk => ⟨hk, fun w hD => hD.2.1⟩) 3 11 rfl (by kernel_rfl) ((wg hr rfl rfl rfl (b' := false) (by kernel_rfl)).trans rfl) hr (.int .i64 p0.ledger_mark) ⟨h.cell 1 rfl, trivial⟩ (fun w hc => rl rfl (by kernel_rfl) (by kernel_rfl) hc.1) ?_; clear hr a; intro a hr
    refine ev 2 12 rfl (by kernel_rfl) ((wg hr rfl rfl rfl (b' := false) (by kernel_rfl)).trans rfl) hr (.int .i64 (wi (p0.ledger_size - p0.ledger_mark))) (fun w => by kernel_rfl) ?_; clear hr a; intro a hr
    refine ev 1 13 rfl (by kernel_rfl) ((wg hr rfl rfl rfl (b' := false) (by kernel_rfl)).trans rfl) hr (.bool (decide (p1 > (wi (p0.ledger_size - p0.ledger_mark))))) (fun w => by kernel_rfl) ?_; clear hr a; intro a hr
    refine ev 0 14 rfl (by kernel_rfl) (wn rfl) hr (.bool (decide (p1 > (wi (p0.ledger_size - p0.ledger_mark))))) (fun w => by kernel_rfl) ?_; clear hr a; intro a hr
    refine e_end (by kernel_rfl) ?_
    refine then_normal ?_
    by_cases c6 : p1 > (wi (p0.ledger_size - p0.ledger_mark))
    ·
      replace H := ifT c6 H
      refine cond_tt hr (b := (decide (p1 > (wi (p0.ledger_size - p0.ledger_mark))))) (decide_eq_true c6) ?_
      refine wp_seq ?_
      refine wp_region_lit ?_
      refine ov hr (.int .i64 22) (by kernel_rfl) ?_; clear hr a; intro a hr
      refine wpList_nil ?_
      refine then_normal ?_
      refine wp_ret ?_
      refine then_ret ?_
      refine end_ret1 (v := .int .i64 22) rfl hr (by kernel_rfl) ?_
      replace H := ej1 H; subst H
      exact ⟨rfl, h⟩
    ·
      replace H := ifF c6 H
      refine cond_ff hr (b := (decide (p1 > (wi (p0.ledger_size - p0.ledger_mark))))) (decide_eq_false c6) ?_
      refine wp_skip ?_
      refine then_normal ?_
      refine wp_seq ?_
      refine wp_region_lit ?_
      refine ov hr (.int .i64 0) (by kernel_rfl) ?_; clear hr a; intro a hr
      refine wpList_nil ?_
      refine then_normal ?_
      refine wp_ret ?_
      refine end_ret1 (v := .int .i64 0) rfl hr (by kernel_rfl) ?_
      replace H := ej1 H; subst H
      exact ⟨rfl, h⟩

/-- (*plunder/cells.ledger).take -/
def cells_ledger_take (p0 : T_cells_Arena) (p1 : Int) : Option (Int × T_cells_Arena) :=
  some (p0.ledger_mark, { p0 with ledger_mark := wi (p0.ledger_mark + p1) })
set_option maxRecDepth 100000 in
set_option maxHeartbeats 4000000 in
theorem cells_ledger_take_ok {z w : World} {L : List HProp} {p0 : T_cells_Arena} {p1 : Int} {B0 : Nat} {ca1 : Option Addr} {cc2 : Nat} {ca3 : Option Addr} {cc4 : Nat} {r0 : Int} {q0 : T_cells_Arena} (H : cells_ledger_take p0 p1 = some (r0, q0)) (h : Fit z (sepL (ob103 B0 p0 ca1 cc2 ca3 cc4 :: ro2 ca1 cc2 p0.cell :: ro96 ca3 cc4 p0.log :: L)) w)  :
    Calls Try.prog 62 #[.pointer (some ⟨B0, 0, none⟩), .int .i64 p1] w fun e w => ∃ caq0_1 : Option Addr, ∃ ccq0_2 : Nat, ∃ caq0_3 : Option Addr, ∃ ccq0_4 : Nat, e = .returned (.int .i64 r0) ∧ Fit z (sepL (ob103 B0 q0 caq0_1 ccq0_2 caq0_3 ccq0_4 :: ro2 caq0_1 ccq0_2 q0.cell :: ro96 caq0_3 ccq0_4 q0.log :: L)) w := by
  unfold cells_ledger_take at H
  refine enter Try.func62 rfl 19 rfl rfl [(0, .pointer (some ⟨B0, 0, none⟩)), (1, .int .i64 p1)] ⟨rfl, rfl, trivial⟩ ?_
  intro j a hr
  refine wp_seq ?_
  refine wp_region_lit ?_
  refine ov hr (.int .i64 0) (by kernel_rfl) ?_; clear hr a; intro a hr
  refine wpList_nil ?_
  refine then_normal ?_
  refine wp_seq ?_
  refine wp_region_lit ?_
  refine ovs [6, 7, 8] [.pointer (some ⟨B0, 0, none⟩), .pointer (some ⟨B0, 0, none⟩), .pointer (some ⟨B0, 1, none⟩)] hr ⟨rfl, rfl⟩ (by kernel_rfl) ?_; clear hr a; intro a hr
  refine op_val (wn rfl) rfl rfl hr (v := .int .i64 p0.ledger_mark) (rl rfl (by kernel_rfl) (by kernel_rfl) (h.cell 1 rfl)) ?_; clear hr a; intro a hr
  refine ov hr (.int .i64 p0.ledger_mark) (by kernel_rfl) ?_; clear hr a; intro a hr
  refine wpList_nil ?_
  refine then_normal ?_
  refine wp_seq ?_
  refine wp_region_lit ?_
  refine ovs [10, 11, 12] [.pointer (some ⟨B0, 0, none⟩), .pointer (some ⟨B0, 0, none⟩), .pointer (some ⟨B0, 1, none⟩)] hr ⟨rfl, rfl⟩ (by kernel_rfl) ?_; clear hr a; intro a hr
  refine op_val (wn rfl) rfl rfl hr (v := .int .i64 p0.ledger_mark) (rl rfl (by kernel_rfl) (by kernel_rfl) (h.cell 1 rfl)) ?_; clear hr a; intro a hr
  refine ovs [14, 15, 16, 17] [.int .i64 p1, .int .i64 (wi (p0.ledger_mark + p1)), .pointer (some ⟨B0, 0, none⟩), .pointer (some ⟨B0, 1, none⟩)] hr ⟨rfl, rfl⟩ (by kernel_rfl) ?_; clear hr a; intro a hr
  refine op_store (wn rfl) rfl hr rfl (by kernel_rfl) (by kernel_rfl) (v := .int .i64 (wi (p0.ledger_mark + p1))) rfl rfl (by kernel_rfl) h (i := 1) rfl ?_; clear h; intro w h
  refine wpList_nil ?_
  replace h : Fit z (sepL (pts B0 (.cells #[.int .i64 p0.ledger_size, .int .i64 (wi (p0.ledger_mark + p1)), .slice ca1 p0.cell.length cc2, .slice ca3 p0.log.length cc4, .int .i64 p0.actor, .bool p0.watched] 103) :: ro2 ca1 cc2 p0.cell :: ro96 ca3 cc4 p0.log :: L)) _ := h
  refine then_normal ?_
  refine wp_seq ?_
  refine wp_region_lit ?_
  refine ovs [18, 4] [.int .i64 p0.ledger_mark, .int .i64 p0.ledger_mark] hr ⟨rfl, rfl⟩ (by kernel_rfl) ?_; clear hr a; intro a hr
  refine wpList_nil ?_
  refine then_normal ?_
  refine wp_ret ?_
  refine end_ret1 (v := .int .i64 p0.ledger_mark) rfl hr (by kernel_rfl) ?_
  replace H := ej2 H; obtain ⟨rfl, rfl⟩ := H
  exact ⟨ca1, cc2, ca3, cc4, rfl, h⟩

/-- (*plunder/cells.Arena).note -/
def cells_Arena_note (p0 : T_cells_Arena) (p1 : Int) (p2 : Int) (p3 : Int) (p4 : Int) (p5 : Bool) : Option (T_cells_Arena) :=
  (if p0.watched = true then if (p0.log.length + 1) * 48 ≤ 140737488355328 then some ({ p0 with log := p0.log ++ [(⟨p0.actor, p1, p2, p3, p4, p5⟩ : T_api_Access)] }) else none else some p0)
set_option maxRecDepth 100000 in
set_option maxHeartbeats 4000000 in
theorem cells_Arena_note_ok {z w : World} {L : List HProp} {p0 : T_cells_Arena} {p1 : Int} {p2 : Int} {p3 : Int} {p4 : Int} {p5 : Bool} {B0 : Nat} {ca1 : Option Addr} {cc2 : Nat} {ca3 : Option Addr} {cc4 : Nat} {q0 : T_cells_Arena} (H : cells_Arena_note p0 p1 p2 p3 p4 p5 = some q0) (h : Fit z (sepL (ob103 B0 p0 ca1 cc2 ca3 cc4 :: ro2 ca1 cc2 p0.cell :: ro96 ca3 cc4 p0.log :: L)) w)  :
    Calls Try.prog 63 #[.pointer (some ⟨B0, 0, none⟩), .int .i64 p1, .int .i64 p2, .int .i64 p3, .int .i64 p4, .bool p5] w fun e w => ∃ caq0_1 : Option Addr, ∃ ccq0_2 : Nat, ∃ caq0_3 : Option Addr, ∃ ccq0_4 : Nat, e = .returned (.tuple #[]) ∧ Fit z (sepL (ob103 B0 q0 caq0_1 ccq0_2 caq0_3 ccq0_4 :: ro2 caq0_1 ccq0_2 q0.cell :: ro96 caq0_3 ccq0_4 q0.log :: L)) w := by
  unfold cells_Arena_note at H
  refine enter Try.func63 rfl 35 rfl rfl [(0, .pointer (some ⟨B0, 0, none⟩)), (1, .int .i64 p1), (2, .int .i64 p2), (3, .int .i64 p3), (4, .int .i64 p4), (5, .bool p5)] ⟨rfl, rfl, rfl, rfl, rfl, rfl, trivial⟩ ?_
  intro j a hr
  refine wp_seq ?_
  refine wp_region_lit ?_
  refine ovs [12, 13, 14] [.pointer (some ⟨B0, 0, none⟩), .pointer (some ⟨B0, 0, none⟩), .pointer (some ⟨B0, 5, none⟩)] hr ⟨rfl, rfl⟩ (by kernel_rfl) ?_; clear hr a; intro a hr
  refine op_val (wn rfl) rfl rfl hr (v := .bool p0.watched) (rl rfl (by kernel_rfl) (by kernel_rfl) (h.cell 5 rfl)) ?_; clear hr a; intro a hr
  refine wpList_nil ?_
  refine then_normal ?_
  by_cases c5 : p0.watched = true
  ·
    replace H := ifT c5 H
    refine cond_tt hr (b := p0.watched) (c5) ?_
    replace H := gd H; obtain ⟨c9, H⟩ := H
    refine reg_E (fun w => heldC w B0 3 [.slice ca3 p0.log.length cc4] ∧ heldC w B0 4 [.int .i64 p0.actor] ∧ True) [2, 3, 6, 7, 14] h (by kernel_rfl) ?_; intro w h
    change wpAnyE _ _ _ _ _ _ 20 (Array.replicate 20 false) a w
    have hgo : ∀ w w', CellsGo w w' → (heldC w B0 3 [.slice ca3 p0.log.length cc4] ∧ heldC w B0 4 [.int .i64 p0.actor] ∧ True) → heldC w' B0 3 [.slice ca3 p0.log.length cc4] ∧ heldC w' B0 4 [.int .i64 p0.actor] ∧ True := fun w w' g hD => ⟨heldC_go _ _ _ _ _ g hD.1, heldC_go _ _ _ _ _ g hD.2.1, trivial⟩
    refine ev 19 0 rfl (by kernel_rfl) (wn rfl) hr (.pointer (some ⟨B0, 0, none⟩)) (fun w => by kernel_rfl) ?_; clear hr a; intro a hr
    refine ev 18 1 rfl (by kernel_rfl) (wn rfl) hr (.pointer (some ⟨B0, 0, none⟩)) (fun w => by kernel_rfl) ?_; clear hr a; intro a hr
    refine evD hgo ⟨⟨h.cell 3 rfl, trivial⟩, ⟨h.cell 4 rfl, trivial⟩, trivial⟩ 17 2 rfl (by kernel_rfl) (wn rfl) hr (.pointer (some ⟨B0, 0, none⟩)) (fun w => by kernel_rfl) ?_; clear hr a; intro a hr
    refine evD hgo ⟨⟨h.cell 3 rfl, trivial⟩, ⟨h.cell 4 rfl, trivial⟩, trivial⟩ 16 3 rfl (by kernel_rfl) (wn rfl) hr (.pointer (some ⟨B0, 3, none⟩)) (fun w => by kernel_rfl) ?_; clear hr a; intro a hr
    refine ev 15 5 rfl (by kernel_rfl) (wn rfl) hr (.pointer (some ⟨B0, 0, none⟩)) (fun w => by kernel_rfl) ?_; clear hr a; intro a hr
    refine evD hgo ⟨⟨h.cell 3 rfl, trivial⟩, ⟨h.cell 4 rfl, trivial⟩, trivial⟩ 14 6 rfl (by kernel_rfl) (wn rfl) hr (.pointer (some ⟨B0, 0, none⟩)) (fun w => by kernel_rfl) ?_; clear hr a; intro a hr
    refine evD hgo ⟨⟨h.cell 3 rfl, trivial⟩, ⟨h.cell 4 rfl, trivial⟩, trivial⟩ 13 7 rfl (by kernel_rfl) (wn rfl) hr (.pointer (some ⟨B0, 4, none⟩)) (fun w => by kernel_rfl) ?_; clear hr a; intro a hr
    refine ev 12 9 rfl (by kernel_rfl) (wn rfl) hr (.int .i64 p1) (fun w => by kernel_rfl) ?_; clear hr a; intro a hr
    refine ev 11 10 rfl (by kernel_rfl) (wn rfl) hr (.int .i64 p2) (fun w => by kernel_rfl) ?_; clear hr a; intro a hr
    refine ev 10 11 rfl (by kernel_rfl) (wn rfl) hr (.int .i64 p3) (fun w => by kernel_rfl) ?_; clear hr a; intro a hr
    refine ev 9 12 rfl (by kernel_rfl) (wn rfl) hr (.int .i64 p4) (fun w => by kernel_rfl) ?_; clear hr a; intro a hr
    refine ev 8 13 rfl (by kernel_rfl) (wn rfl) hr (.bool p5) (fun w => by kernel_rfl) ?_; clear hr a; intro a hr
    refine el [2, 3, 6, 7, 14] (b := B0) (off := 3) (cs := [.slice ca3 p0.log.length cc4]) (fun _ hk => ⟨hk, fun w hD => hD.1⟩) 7 4 rfl (by kernel_rfl) (wn rfl) hr (.slice ca3 p0.log.length cc4) ⟨h.cell 3 rfl, trivial⟩ (fun w hc => rl rfl (by kernel_rfl) (by kernel_rfl) hc.1) ?_; clear hr a; intro a hr
    refine el [2, 3, 6, 7, 14] (b := B0) (off := 4) (cs := [.int .i64 p0.actor]) (fun _ hk => ⟨hk, fun w hD => hD.2.1⟩) 6 8 rfl (by kernel_rfl) (wn rfl) hr (.int .i64 p0.actor) ⟨h.cell 4 rfl, trivial⟩ (fun w hc => rl rfl (by kernel_rfl) (by kernel_rfl) hc.1) ?_; clear hr a; intro a hr
    refine evD hgo ⟨⟨h.cell 3 rfl, trivial⟩, ⟨h.cell 4 rfl, trivial⟩, trivial⟩ 5 14 rfl (by kernel_rfl) (wn rfl) hr (.agg #[.int .i64 p0.actor, .int .i64 p1, .int .i64 p2, .int .i64 p3, .int .i64 p4, .bool p5]) (fun w => by kernel_rfl) ?_; clear hr a; intro a hr
    refine e_one (fuel := 4) (i := 15) (by kernel_rfl) rfl ?_
    refine op_new (wn rfl) rfl rfl hr h (vf := fun b => .slice (some ⟨b, 0, none⟩) 1 1) (cs := #[.int .i64 p0.actor, .int .i64 p1, .int .i64 p2, .int .i64 p3, .int .i64 p4, .bool p5]) (T := 96) (by kernel_rfl) ?_; clear h hr a; intro b6 w a h hr
    refine wpList_nil ?_; refine then_normal ?_
    refine ⟨fun hE => absurd hE (by decide), ?_⟩
    refine e_one (fuel := 3) (i := 16) (by kernel_rfl) rfl ?_
    replace h : Fit z (sepL (ro96 ca3 cc4 p0.log :: pts b6 (.cells #[.int .i64 p0.actor, .int .i64 p1, .int .i64 p2, .int .i64 p3, .int .i64 p4, .bool p5] 96) :: ob103 B0 p0 ca1 cc2 ca3 cc4 :: ro2 ca1 cc2 p0.cell :: L)) _ := h.sel 4 [3, 0, 1, 2] (by kernel_rfl) (by kernel_rfl)
    refine op_append (n0 := p0.log.length) (c := 1) (bytes := 48) (wn rfl) rfl rfl hr rfl (by kernel_rfl) (by kernel_rfl) enc_T_api_Access_ok (E := 96) (xs := p0.log) (by kernel_rfl) (by kernel_rfl) h (news := [(⟨p0.actor, p1, p2, p3, p4, p5⟩ : T_api_Access)]) (m := 1) rfl ((h.pick 1).news rfl) c9 rfl ?_; clear h hr a; intro ca7 cc8 w a h hr
    refine wpList_nil ?_; refine then_normal ?_
    replace h : Fit z (sepL (ro96 ca7 cc8 (p0.log ++ [(⟨p0.actor, p1, p2, p3, p4, p5⟩ : T_api_Access)]) :: pts b6 (.cells #[.int .i64 p0.actor, .int .i64 p1, .int .i64 p2, .int .i64 p3, .int .i64 p4, .bool p5] 96) :: ob103 B0 p0 ca1 cc2 ca3 cc4 :: ro2 ca1 cc2 p0.cell :: L)) _ := h
    refine ⟨fun hE => absurd hE (by decide), ?_⟩
    refine ev 2 17 rfl (by kernel_rfl) (wn rfl) hr (.pointer (some ⟨B0, 0, none⟩)) (fun w => by kernel_rfl) ?_; clear hr a; intro a hr
    refine ev 1 18 rfl (by kernel_rfl) (wn rfl) hr (.pointer (some ⟨B0, 3, none⟩)) (fun w => by kernel_rfl) ?_; clear hr a; intro a hr
    refine e_one (fuel := 0) (i := 19) (by kernel_rfl) rfl ?_
    replace h : Fit z (sepL (ob103 B0 p0 ca1 cc2 ca3 cc4 :: ro96 ca7 cc8 (p0.log ++ [(⟨p0.actor, p1, p2, p3, p4, p5⟩ : T_api_Access)]) :: pts b6 (.cells #[.int .i64 p0.actor, .int .i64 p1, .int .i64 p2, .int .i64 p3, .int .i64 p4, .bool p5] 96) :: ro2 ca1 cc2 p0.cell :: L)) _ := h.sel 4 [2, 0, 1, 3] (by kernel_rfl) (by kernel_rfl)
    refine op_store (wn rfl) rfl hr rfl (by kernel_rfl) (by kernel_rfl) (v := .slice ca7 ((p0.log ++ [(⟨p0.actor, p1, p2, p3, p4, p5⟩ : T_api_Access)]).length) cc8) rfl rfl (by kernel_rfl) h (i := 3) rfl ?_; clear h; intro w h
    refine wpList_nil ?_; refine then_normal ?_
    replace h : Fit z (sepL (pts B0 (.cells #[.int .i64 p0.ledger_size, .int .i64 p0.ledger_mark, .slice ca1 p0.cell.length cc2, .slice ca7 ((p0.log ++ [(⟨p0.actor, p1, p2, p3, p4, p5⟩ : T_api_Access)]).length) cc8, .int .i64 p0.actor, .bool p0.watched] 103) :: ro96 ca7 cc8 (p0.log ++ [(⟨p0.actor, p1, p2, p3, p4, p5⟩ : T_api_Access)]) :: pts b6 (.cells #[.int .i64 p0.actor, .int .i64 p1, .int .i64 p2, .int .i64 p3, .int .i64 p4, .bool p5] 96) :: ro2 ca1 cc2 p0.cell :: L)) _ := h
    refine ⟨fun hE => absurd hE (by decide), ?_⟩
    refine e_end (by kernel_rfl) ?_
    refine end_norm0 rfl hr ?_
    replace h : Fit z (sepL (pts B0 (.cells #[.int .i64 p0.ledger_size, .int .i64 p0.ledger_mark, .slice ca1 p0.cell.length cc2, .slice ca7 ((p0.log ++ [(⟨p0.actor, p1, p2, p3, p4, p5⟩ : T_api_Access)]).length) cc8, .int .i64 p0.actor, .bool p0.watched] 103) :: ro2 ca1 cc2 p0.cell :: ro96 ca7 cc8 (p0.log ++ [(⟨p0.actor, p1, p2, p3, p4, p5⟩ : T_api_Access)]) :: L)) _ := h.sel 4 [0, 3, 1] (by kernel_rfl) (by kernel_rfl)
    replace H := ej1 H; subst H
    exact ⟨ca1, cc2, ca7, cc8, rfl, h⟩
  ·
    replace H := ifF c5 H
    refine cond_ff hr (b := p0.watched) (bF c5) ?_
    refine wp_skip ?_
    refine end_norm0 rfl hr ?_
    replace H := ej1 H; subst H
    exact ⟨ca1, cc2, ca3, cc4, rfl, h⟩

/-- (*plunder/cells.Arena).Reserve -/
def cells_Arena_Reserve (p0 : T_cells_Arena) (p1 : Int) : Option (Int × Int × T_cells_Arena) :=
  ob0 (some ()) (ob1 (cells_ledger_refuse p0 p1) (fun r7 => (if r7 = (0 : Int) then ob2 (cells_ledger_take p0 p1) (fun r10 S11 => if 0 ≤ p1 ∧ (S11.cell.length + p1.toNat) * 8 ≤ 140737488355328 then ob1 (cells_Arena_note ({ S11 with cell := S11.cell ++ List.replicate p1.toNat (0 : Int) }) 4 r10 p1 0 true) (fun S20 => some (r10, 0, S20)) else none) else some (0, r7, p0))))
set_option maxRecDepth 100000 in
set_option maxHeartbeats 4000000 in
theorem cells_Arena_Reserve_ok {z w : World} {L : List HProp} {p0 : T_cells_Arena} {p1 : Int} {B0 : Nat} {ca1 : Option Addr} {cc2 : Nat} {ca3 : Option Addr} {cc4 : Nat} {r0 : Int} {r1 : Int} {q0 : T_cells_Arena} (H : cells_Arena_Reserve p0 p1 = some (r0, r1, q0)) (h : Fit z (sepL (ob103 B0 p0 ca1 cc2 ca3 cc4 :: ro2 ca1 cc2 p0.cell :: ro96 ca3 cc4 p0.log :: L)) w)  :
    Calls Try.prog 35 #[.pointer (some ⟨B0, 0, none⟩), .int .i64 p1] w fun e w => ∃ caq0_1 : Option Addr, ∃ ccq0_2 : Nat, ∃ caq0_3 : Option Addr, ∃ ccq0_4 : Nat, e = .returned (.tuple #[.int .i64 r0, .int .i64 r1]) ∧ Fit z (sepL (ob103 B0 q0 caq0_1 ccq0_2 caq0_3 ccq0_4 :: ro2 caq0_1 ccq0_2 q0.cell :: ro96 caq0_3 ccq0_4 q0.log :: L)) w := by
  unfold cells_Arena_Reserve at H
  refine enter Try.func35 rfl 37 rfl rfl [(0, .pointer (some ⟨B0, 0, none⟩)), (1, .int .i64 p1)] ⟨rfl, rfl, trivial⟩ ?_
  intro j a hr
  refine wp_seq ?_
  refine wp_region_lit ?_
  refine ovs [4, 5] [.int .i64 0, .int .i64 0] hr ⟨rfl, rfl⟩ (by kernel_rfl) ?_; clear hr a; intro a hr
  refine wpList_nil ?_
  refine then_normal ?_
  refine wp_seq ?_
  refine wp_region_lit ?_
  refine ov hr (.pointer none) (by kernel_rfl) ?_; clear hr a; intro a hr
  refine wpList_nil ?_
  refine then_normal ?_
  replace H := kd0 H; obtain ⟨o6, H, hK5⟩ := H
  refine cut_rule (β := Unit) (fun _ a w => () = o6 ∧ ∃ j, Rep 37 (lk [(0, .pointer (some ⟨B0, 0, none⟩)), (1, .int .i64 p1), (6, .pointer (some ⟨B0, 0, none⟩))] j) a ∧ Fit z (sepL (ob103 B0 p0 ca1 cc2 ca3 cc4 :: ro2 ca1 cc2 p0.cell :: ro96 ca3 cc4 p0.log :: L)) w) ?_ ?_
  ·
    refine wp_seq ?_
    refine wp_region_lit ?_
    refine ovs [9, 10] [.pointer (some ⟨B0, 0, none⟩), .bool true] hr ⟨rfl, rfl⟩ (by kernel_rfl) ?_; clear hr a; intro a hr
    refine wpList_nil ?_
    refine then_normal ?_
    refine cond_tt hr (b := true) rfl ?_
    refine wp_region_lit ?_
    refine ovs [11, 12, 13, 6] [.pointer (some ⟨B0, 0, none⟩), .pointer (some ⟨B0, 0, none⟩), .pointer (some ⟨B0, 0, none⟩), .pointer (some ⟨B0, 0, none⟩)] hr ⟨rfl, rfl⟩ (by kernel_rfl) ?_; clear hr a; intro a hr
    refine wpList_nil ?_
    refine then_normal ?_
    replace hr := hr.fold2 [(0, .pointer (some ⟨B0, 0, none⟩)), (1, .int .i64 p1), (6, .pointer (some ⟨B0, 0, none⟩))] (by kernel_rfl); obtain ⟨j, hr⟩ := hr
    exact ⟨(), sinj H, j, hr, h⟩
  clear h hr a; rintro _ a w ⟨rfl, j, hr, h⟩
  replace H := kk0 hK5
  refine wp_seq ?_
  refine wp_seq ?_
  refine wp_region_lit ?_
  replace H := bd1 H; obtain ⟨r7, e8, H⟩ := H
  refine ovs [14, 15] [.pointer (some ⟨B0, 0, none⟩), .int .i64 p1] hr ⟨rfl, rfl⟩ (by kernel_rfl) ?_; clear hr a; intro a hr
  have hc := cells_ledger_refuse_ok (H := e8) (h := h)
  refine op_call (wn rfl) rfl rfl hr (f := 61) (args := #[.pointer (some ⟨B0, 0, none⟩), .int .i64 p1]) (by kernel_rfl) hc ?_; clear hc h
  rintro _ w ⟨rfl, h⟩; refine ⟨_, rfl, ?_⟩
  clear hr a; intro a hr
  refine ov hr (.int .i64 r7) (by kernel_rfl) ?_; clear hr a; intro a hr
  refine wpList_nil ?_
  refine then_normal ?_
  refine wp_seq ?_
  refine wp_region_lit ?_
  refine ovs [17, 18] [.int .i64 r7, .bool (r7 != (0 : Int))] hr ⟨rfl, rfl⟩ (by kernel_rfl) ?_; clear hr a; intro a hr
  refine wpList_nil ?_
  refine then_normal ?_
  by_cases c9 : r7 = (0 : Int)
  ·
    replace H := ifT c9 H
    refine cond_ff hr (b := (r7 != (0 : Int))) (bne_eq_false_iff_eq.mpr c9) ?_
    refine wp_skip ?_
    refine then_normal ?_
    refine wp_seq ?_
    refine wp_region_lit ?_
    replace H := bd2 H; obtain ⟨r10, S11, e12, H⟩ := H
    refine ovs [20, 21] [.pointer (some ⟨B0, 0, none⟩), .int .i64 p1] hr ⟨rfl, rfl⟩ (by kernel_rfl) ?_; clear hr a; intro a hr
    have hc := cells_ledger_take_ok (H := e12) (h := h)
    refine op_call (wn rfl) rfl rfl hr (f := 62) (args := #[.pointer (some ⟨B0, 0, none⟩), .int .i64 p1]) (by kernel_rfl) hc ?_; clear hc h
    rintro _ w ⟨caq13, ccq14, caq15, ccq16, rfl, h⟩; refine ⟨_, rfl, ?_⟩
    clear hr a; intro a hr
    refine ov hr (.int .i64 r10) (by kernel_rfl) ?_; clear hr a; intro a hr
    refine wpList_nil ?_
    refine then_normal ?_
    refine wp_seq ?_
    refine wp_region_lit ?_
    refine ovs [23, 24, 25, 26] [.pointer (some ⟨B0, 0, none⟩), .pointer (some ⟨B0, 0, none⟩), .pointer (some ⟨B0, 0, none⟩), .pointer (some ⟨B0, 2, none⟩)] hr ⟨rfl, rfl⟩ (by kernel_rfl) ?_; clear hr a; intro a hr
    refine op_val (wn rfl) rfl rfl hr (v := .slice caq13 S11.cell.length ccq14) (rl rfl (by kernel_rfl) (by kernel_rfl) (h.cell 2 rfl)) ?_; clear hr a; intro a hr
    refine ov hr (.int .i64 p1) (by kernel_rfl) ?_; clear hr a; intro a hr
    replace h : Fit z (sepL (ro2 caq13 ccq14 S11.cell :: ob103 B0 S11 caq13 ccq14 caq15 ccq16 :: ro96 caq15 ccq16 S11.log :: L)) _ := h.sel 3 [1, 0, 2] (by kernel_rfl) (by kernel_rfl)
    replace H := gd H; obtain ⟨c19, H⟩ := H
    refine op_extend (kx := .i64) (n0 := S11.cell.length) (i := p1) (m := p1.toNat) (bytes := 8) (zc := #[.int .i64 0]) (0 : Int) (wn rfl) rfl rfl hr rfl (by kernel_rfl) (by kernel_rfl) (Int.toNat_of_nonneg c19.1).symm encZ_i64_ok (E := 2) (xs := S11.cell) (by kernel_rfl) (by kernel_rfl) (by kernel_rfl) rfl h c19.2 rfl ?_; clear h hr a; intro ca17 cc18 w a h hr
    refine ovs [30, 31] [.pointer (some ⟨B0, 0, none⟩), .pointer (some ⟨B0, 2, none⟩)] hr ⟨rfl, rfl⟩ (by kernel_rfl) ?_; clear hr a; intro a hr
    replace h : Fit z (sepL (ob103 B0 S11 caq13 ccq14 caq15 ccq16 :: ro2 ca17 cc18 (S11.cell ++ List.replicate p1.toNat (0 : Int)) :: ro96 caq15 ccq16 S11.log :: L)) _ := h.sel 3 [1, 0, 2] (by kernel_rfl) (by kernel_rfl)
    refine op_store (wn rfl) rfl hr rfl (by kernel_rfl) (by kernel_rfl) (v := .slice ca17 ((S11.cell ++ List.replicate p1.toNat (0 : Int)).length) cc18) rfl rfl (by kernel_rfl) h (i := 2) rfl ?_; clear h; intro w h
    refine wpList_nil ?_
    replace h : Fit z (sepL (pts B0 (.cells #[.int .i64 S11.ledger_size, .int .i64 S11.ledger_mark, .slice ca17 ((S11.cell ++ List.replicate p1.toNat (0 : Int)).length) cc18, .slice caq15 S11.log.length ccq16, .int .i64 S11.actor, .bool S11.watched] 103) :: ro2 ca17 cc18 (S11.cell ++ List.replicate p1.toNat (0 : Int)) :: ro96 caq15 ccq16 S11.log :: L)) _ := h
    refine then_normal ?_
    refine wp_seq ?_
    refine wp_region_lit ?_
    replace H := bd1 H; obtain ⟨S20, e21, H⟩ := H
    refine ovs [32, 33, 34] [.pointer (some ⟨B0, 0, none⟩), .int .i64 r10, .int .i64 p1] hr ⟨rfl, rfl⟩ (by kernel_rfl) ?_; clear hr a; intro a hr
    have hc := cells_Arena_note_ok (H := e21) (h := h)
    refine op_call (wn rfl) rfl rfl hr (f := 63) (args := #[.pointer (some ⟨B0, 0, none⟩), .int .i64 4, .int .i64 r10, .int .i64 p1, .int .i64 0, .bool true]) (by kernel_rfl) hc ?_; clear hc h
    rintro _ w ⟨caq22, ccq23, caq24, ccq25, rfl, h⟩; refine ⟨_, rfl, ?_⟩
    clear hr a; intro a hr
    refine wpList_nil ?_
    refine then_normal ?_
    refine wp_seq ?_
    refine wp_region_lit ?_
    refine ovs [36, 4, 5] [.int .i64 r10, .int .i64 r10, .int .i64 0] hr ⟨rfl, rfl⟩ (by kernel_rfl) ?_; clear hr a; intro a hr
    refine wpList_nil ?_
    refine then_normal ?_
    refine wp_ret ?_
    refine end_ret2 (v := .int .i64 r10) (v' := .int .i64 0) rfl hr (by kernel_rfl) (by kernel_rfl) ?_
    replace H := ej3 H; obtain ⟨rfl, rfl, rfl⟩ := H
    exact ⟨caq22, ccq23, caq24, ccq25, rfl, h⟩
  ·
    replace H := ifF c9 H
    refine cond_tt hr (b := (r7 != (0 : Int))) (bne_iff_ne.mpr c9) ?_
    refine wp_seq ?_
    refine wp_region_lit ?_
    refine ovs [19, 4, 5] [.int .i64 r7, .int .i64 0, .int .i64 r7] hr ⟨rfl, rfl⟩ (by kernel_rfl) ?_; clear hr a; intro a hr
    refine wpList_nil ?_
    refine then_normal ?_
    refine wp_ret ?_
    refine then_ret ?_
    refine end_ret2 (v := .int .i64 0) (v' := .int .i64 r7) rfl hr (by kernel_rfl) (by kernel_rfl) ?_
    replace H := ej3 H; obtain ⟨rfl, rfl, rfl⟩ := H
    exact ⟨ca1, cc2, ca3, cc4, rfl, h⟩

/-- (plunder/frames.Table).join -/
def frames_Table__join (p0 : T_frames_Table) (p1 : Int) : Option (Int) :=
  some (wi ((wi (p0.Base + (1 : Int))) + (wi (p1 * (10 : Int)))))
set_option maxRecDepth 100000 in
set_option maxHeartbeats 4000000 in
theorem frames_Table__join_ok {z w : World} {L : List HProp} {p0 : T_frames_Table} {p1 : Int} {r0 : Int} (H : frames_Table__join p0 p1 = some r0) (h : Fit z (sepL (L)) w)  :
    Calls Try.prog 54 #[.agg #[.int .i64 p0.Base, .int .i64 p0.Frames], .int .i64 p1] w fun e w => e = .returned (.int .i64 r0) ∧ Fit z (sepL (L)) w := by
  unfold frames_Table__join at H
  refine enter Try.func54 rfl 11 rfl rfl [(0, .agg #[.int .i64 p0.Base, .int .i64 p0.Frames]), (1, .int .i64 p1)] ⟨rfl, rfl, trivial⟩ ?_
  intro j a hr
  refine wp_seq ?_
  refine wp_region_lit ?_
  refine op_new (wn rfl) rfl rfl hr h (vf := fun b => .pointer (some ⟨b, 0, none⟩)) (cs := #[.int .i64 p0.Base, .int .i64 p0.Frames]) (T := 39) (by kernel_rfl) ?_; clear h hr a; intro b1 w a h hr
  refine ov hr (.int .i64 0) (by kernel_rfl) ?_; clear hr a; intro a hr
  refine wpList_nil ?_
  refine then_normal ?_
  refine wp_seq ?_
  refine wp_region_lit ?_
  refine ov hr (.pointer (some ⟨b1, 0, none⟩)) (by kernel_rfl) ?_; clear hr a; intro a hr
  refine op_val (wn rfl) rfl rfl hr (v := .int .i64 p0.Base) (rl rfl (by kernel_rfl) (by kernel_rfl) (h.cell 0 rfl)) ?_; clear hr a; intro a hr
  refine ovs [7, 8, 9, 10, 4] [.int .i64 (wi (p0.Base + (1 : Int))), .int .i64 p1, .int .i64 (wi (p1 * (10 : Int))), .int .i64 (wi ((wi (p0.Base + (1 : Int))) + (wi (p1 * (10 : Int))))), .int .i64 (wi ((wi (p0.Base + (1 : Int))) + (wi (p1 * (10 : Int)))))] hr ⟨rfl, rfl⟩ (by kernel_rfl) ?_; clear hr a; intro a hr
  refine wpList_nil ?_
  refine then_normal ?_
  refine wp_ret ?_
  refine end_ret1 (v := .int .i64 (wi ((wi (p0.Base + (1 : Int))) + (wi (p1 * (10 : Int)))))) rfl hr (by kernel_rfl) ?_
  replace h : Fit z (sepL (L)) _ := h.sel 1 [] (by kernel_rfl) (by kernel_rfl)
  replace H := ej1 H; subst H
  exact ⟨rfl, h⟩

/-- (*plunder/cells.ledger).has -/
def cells_ledger_has (p0 : T_cells_Arena) (p1 : Int) : Option (Bool) :=
  (if p1 ≥ (0 : Int) then some (decide (p1 < p0.ledger_mark)) else some false)
set_option maxRecDepth 100000 in
set_option maxHeartbeats 4000000 in
theorem cells_ledger_has_ok {z w : World} {L : List HProp} {p0 : T_cells_Arena} {p1 : Int} {B0 : Nat} {ca1 : Option Addr} {cc2 : Nat} {ca3 : Option Addr} {cc4 : Nat} {r0 : Bool} (H : cells_ledger_has p0 p1 = some r0) (h : Fit z (sepL (ob103 B0 p0 ca1 cc2 ca3 cc4 :: ro2 ca1 cc2 p0.cell :: ro96 ca3 cc4 p0.log :: L)) w)  :
    Calls Try.prog 127 #[.pointer (some ⟨B0, 0, none⟩), .int .i64 p1] w fun e w => e = .returned (.bool r0) ∧ Fit z (sepL (ob103 B0 p0 ca1 cc2 ca3 cc4 :: ro2 ca1 cc2 p0.cell :: ro96 ca3 cc4 p0.log :: L)) w := by
  unfold cells_ledger_has at H
  refine enter Try.func127 rfl 15 rfl rfl [(0, .pointer (some ⟨B0, 0, none⟩)), (1, .int .i64 p1)] ⟨rfl, rfl, trivial⟩ ?_
  intro j a hr
  refine wp_seq ?_
  refine wp_region_lit ?_
  refine ov hr (.bool false) (by kernel_rfl) ?_; clear hr a; intro a hr
  refine wpList_nil ?_
  refine then_normal ?_
  refine wp_seq ?_
  refine wp_region_lit ?_
  refine ovs [5, 6, 7] [.int .i64 p1, .bool (decide (p1 ≥ (0 : Int))), .bool (decide (p1 ≥ (0 : Int)))] hr ⟨rfl, rfl⟩ (by kernel_rfl) ?_; clear hr a; intro a hr
  by_cases c5 : p1 ≥ (0 : Int)
  ·
    replace H := ifT c5 H
    refine op_val ((wg hr rfl rfl rfl (b' := (decide (p1 ≥ (0 : Int)))) (by kernel_rfl)).trans (by rw [show (decide (p1 ≥ (0 : Int))) = true from (decide_eq_true c5)]; rfl)) rfl rfl hr (v := .int .i64 p1) (by kernel_rfl) ?_; clear hr a; intro a hr
    refine op_val ((wg hr rfl rfl rfl (b' := (decide (p1 ≥ (0 : Int)))) (by kernel_rfl)).trans (by rw [show (decide (p1 ≥ (0 : Int))) = true from (decide_eq_true c5)]; rfl)) rfl rfl hr (v := .pointer (some ⟨B0, 0, none⟩)) (by kernel_rfl) ?_; clear hr a; intro a hr
    refine op_val ((wg hr rfl rfl rfl (b' := (decide (p1 ≥ (0 : Int)))) (by kernel_rfl)).trans (by rw [show (decide (p1 ≥ (0 : Int))) = true from (decide_eq_true c5)]; rfl)) rfl rfl hr (v := .pointer (some ⟨B0, 0, none⟩)) (by kernel_rfl) ?_; clear hr a; intro a hr
    refine op_val ((wg hr rfl rfl rfl (b' := (decide (p1 ≥ (0 : Int)))) (by kernel_rfl)).trans (by rw [show (decide (p1 ≥ (0 : Int))) = true from (decide_eq_true c5)]; rfl)) rfl rfl hr (v := .pointer (some ⟨B0, 1, none⟩)) (by kernel_rfl) ?_; clear hr a; intro a hr
    refine op_val ((wg hr rfl rfl rfl (b' := (decide (p1 ≥ (0 : Int)))) (by kernel_rfl)).trans (by rw [show (decide (p1 ≥ (0 : Int))) = true from (decide_eq_true c5)]; rfl)) rfl rfl hr (v := .int .i64 p0.ledger_mark) (rl rfl (by kernel_rfl) (by kernel_rfl) (h.cell 1 rfl)) ?_; clear hr a; intro a hr
    refine op_val ((wg hr rfl rfl rfl (b' := (decide (p1 ≥ (0 : Int)))) (by kernel_rfl)).trans (by rw [show (decide (p1 ≥ (0 : Int))) = true from (decide_eq_true c5)]; rfl)) rfl rfl hr (v := .bool (decide (p1 < p0.ledger_mark))) (by kernel_rfl) ?_; clear hr a; intro a hr
    refine op_val (wn rfl) rfl rfl hr (v := .bool (decide (p1 < p0.ledger_mark))) (rp_t (b := (decide (p1 ≥ (0 : Int)))) rfl (by kernel_rfl) (decide_eq_true c5) (by kernel_rfl)) ?_; clear hr a; intro a hr
    refine ov hr (.bool (decide (p1 < p0.ledger_mark))) (by kernel_rfl) ?_; clear hr a; intro a hr
    refine wpList_nil ?_
    refine then_normal ?_
    refine wp_ret ?_
    refine end_ret1 (v := .bool (decide (p1 < p0.ledger_mark))) rfl hr (by kernel_rfl) ?_
    replace H := ej1 H; subst H
    exact ⟨rfl, h⟩
  ·
    replace H := ifF c5 H
    refine op_off ((wg hr rfl rfl rfl (b' := (decide (p1 ≥ (0 : Int)))) (by kernel_rfl)).trans (by rw [show (decide (p1 ≥ (0 : Int))) = false from (decide_eq_false c5)]; rfl)) rfl rfl hr ?_; clear hr a; intro a hr
    refine op_off ((wg hr rfl rfl rfl (b' := (decide (p1 ≥ (0 : Int)))) (by kernel_rfl)).trans (by rw [show (decide (p1 ≥ (0 : Int))) = false from (decide_eq_false c5)]; rfl)) rfl rfl hr ?_; clear hr a; intro a hr
    refine op_off ((wg hr rfl rfl rfl (b' := (decide (p1 ≥ (0 : Int)))) (by kernel_rfl)).trans (by rw [show (decide (p1 ≥ (0 : Int))) = false from (decide_eq_false c5)]; rfl)) rfl rfl hr ?_; clear hr a; intro a hr
    refine op_off ((wg hr rfl rfl rfl (b' := (decide (p1 ≥ (0 : Int)))) (by kernel_rfl)).trans (by rw [show (decide (p1 ≥ (0 : Int))) = false from (decide_eq_false c5)]; rfl)) rfl rfl hr ?_; clear hr a; intro a hr
    refine op_off ((wg hr rfl rfl rfl (b' := (decide (p1 ≥ (0 : Int)))) (by kernel_rfl)).trans (by rw [show (decide (p1 ≥ (0 : Int))) = false from (decide_eq_false c5)]; rfl)) rfl rfl hr ?_; clear hr a; intro a hr
    refine op_off ((wg hr rfl rfl rfl (b' := (decide (p1 ≥ (0 : Int)))) (by kernel_rfl)).trans (by rw [show (decide (p1 ≥ (0 : Int))) = false from (decide_eq_false c5)]; rfl)) rfl rfl hr ?_; clear hr a; intro a hr
    refine op_val (wn rfl) rfl rfl hr (v := .bool false) (rp_f (b := (decide (p1 ≥ (0 : Int)))) rfl (by kernel_rfl) (decide_eq_false c5) (by kernel_rfl)) ?_; clear hr a; intro a hr
    refine ov hr (.bool false) (by kernel_rfl) ?_; clear hr a; intro a hr
    refine wpList_nil ?_
    refine then_normal ?_
    refine wp_ret ?_
    refine end_ret1 (v := .bool false) rfl hr (by kernel_rfl) ?_
    replace H := ej1 H; subst H
    exact ⟨rfl, h⟩

/-- (*plunder/cells.Arena).outside -/
def cells_Arena_outside (p0 : T_cells_Arena) (p1 : Int) : Option (Bool) :=
  ob1 (cells_ledger_has p0 p1) (fun r5 => some (!r5))
set_option maxRecDepth 100000 in
set_option maxHeartbeats 4000000 in
theorem cells_Arena_outside_ok {z w : World} {L : List HProp} {p0 : T_cells_Arena} {p1 : Int} {B0 : Nat} {ca1 : Option Addr} {cc2 : Nat} {ca3 : Option Addr} {cc4 : Nat} {r0 : Bool} (H : cells_Arena_outside p0 p1 = some r0) (h : Fit z (sepL (ob103 B0 p0 ca1 cc2 ca3 cc4 :: ro2 ca1 cc2 p0.cell :: ro96 ca3 cc4 p0.log :: L)) w)  :
    Calls Try.prog 126 #[.pointer (some ⟨B0, 0, none⟩), .int .i64 p1] w fun e w => e = .returned (.bool r0) ∧ Fit z (sepL (ob103 B0 p0 ca1 cc2 ca3 cc4 :: ro2 ca1 cc2 p0.cell :: ro96 ca3 cc4 p0.log :: L)) w := by
  unfold cells_Arena_outside at H
  refine enter Try.func126 rfl 15 rfl rfl [(0, .pointer (some ⟨B0, 0, none⟩)), (1, .int .i64 p1)] ⟨rfl, rfl, trivial⟩ ?_
  intro j a hr
  refine wp_seq ?_
  refine wp_region_lit ?_
  refine ov hr (.bool false) (by kernel_rfl) ?_; clear hr a; intro a hr
  refine wpList_nil ?_
  refine then_normal ?_
  refine wp_seq ?_
  refine wp_region_lit ?_
  refine ovs [5, 6, 7] [.pointer (some ⟨B0, 0, none⟩), .bool false, .bool false] hr ⟨rfl, rfl⟩ (by kernel_rfl) ?_; clear hr a; intro a hr
  refine op_val ((wg hr rfl rfl rfl (b' := false) (by kernel_rfl)).trans rfl) rfl rfl hr (v := .pointer (some ⟨B0, 0, none⟩)) (by kernel_rfl) ?_; clear hr a; intro a hr
  refine op_val ((wg hr rfl rfl rfl (b' := false) (by kernel_rfl)).trans rfl) rfl rfl hr (v := .pointer (some ⟨B0, 0, none⟩)) (by kernel_rfl) ?_; clear hr a; intro a hr
  refine op_val ((wg hr rfl rfl rfl (b' := false) (by kernel_rfl)).trans rfl) rfl rfl hr (v := .pointer (some ⟨B0, 0, none⟩)) (by kernel_rfl) ?_; clear hr a; intro a hr
  refine op_val ((wg hr rfl rfl rfl (b' := false) (by kernel_rfl)).trans rfl) rfl rfl hr (v := .int .i64 p1) (by kernel_rfl) ?_; clear hr a; intro a hr
  replace H := bd1 H; obtain ⟨r5, e6, H⟩ := H
  have hc := cells_ledger_has_ok (H := e6) (h := h)
  refine op_call ((wg hr rfl rfl rfl (b' := false) (by kernel_rfl)).trans rfl) rfl rfl hr (f := 127) (args := #[.pointer (some ⟨B0, 0, none⟩), .int .i64 p1]) (by kernel_rfl) hc ?_; clear hc h
  rintro _ w ⟨rfl, h⟩; refine ⟨_, rfl, ?_⟩
  clear hr a; intro a hr
  refine op_val ((wg hr rfl rfl rfl (b' := false) (by kernel_rfl)).trans rfl) rfl rfl hr (v := .bool (!r5)) (by kernel_rfl) ?_; clear hr a; intro a hr
  refine ovs [14, 4] [.bool (!r5), .bool (!r5)] hr ⟨rfl, rfl⟩ (by kernel_rfl) ?_; clear hr a; intro a hr
  refine wpList_nil ?_
  refine then_normal ?_
  refine wp_ret ?_
  refine end_ret1 (v := .bool (!r5)) rfl hr (by kernel_rfl) ?_
  replace H := ej1 H; subst H
  exact ⟨rfl, h⟩

/-- (*plunder/cells.Arena).Store -/
def cells_Arena_Store (p0 : T_cells_Arena) (p1 : Int) (p2 : Int) : Option (Int × T_cells_Arena) :=
  ob1 (cells_Arena_outside p0 p1) (fun r5 => (if r5 = true then some (20, p0) else if inr_ p1 p0.cell.length then ob1 (cells_Arena_note ({ p0 with cell := p0.cell.set p1.toNat p2 }) 1 p1 p2 0 true) (fun S10 => some (0, S10)) else none))
set_option maxRecDepth 100000 in
set_option maxHeartbeats 4000000 in
theorem cells_Arena_Store_ok {z w : World} {L : List HProp} {p0 : T_cells_Arena} {p1 : Int} {p2 : Int} {B0 : Nat} {ca1 : Option Addr} {cc2 : Nat} {ca3 : Option Addr} {cc4 : Nat} {r0 : Int} {q0 : T_cells_Arena} (H : cells_Arena_Store p0 p1 p2 = some (r0, q0)) (h : Fit z (sepL (ob103 B0 p0 ca1 cc2 ca3 cc4 :: ro2 ca1 cc2 p0.cell :: ro96 ca3 cc4 p0.log :: L)) w)  :
    Calls Try.prog 125 #[.pointer (some ⟨B0, 0, none⟩), .int .i64 p1, .int .i64 p2] w fun e w => ∃ caq0_1 : Option Addr, ∃ ccq0_2 : Nat, ∃ caq0_3 : Option Addr, ∃ ccq0_4 : Nat, e = .returned (.int .i64 r0) ∧ Fit z (sepL (ob103 B0 q0 caq0_1 ccq0_2 caq0_3 ccq0_4 :: ro2 caq0_1 ccq0_2 q0.cell :: ro96 caq0_3 ccq0_4 q0.log :: L)) w := by
  unfold cells_Arena_Store at H
  refine enter Try.func125 rfl 21 rfl rfl [(0, .pointer (some ⟨B0, 0, none⟩)), (1, .int .i64 p1), (2, .int .i64 p2)] ⟨rfl, rfl, rfl, trivial⟩ ?_
  intro j a hr
  refine wp_seq ?_
  refine wp_region_lit ?_
  refine ov hr (.int .i64 0) (by kernel_rfl) ?_; clear hr a; intro a hr
  refine wpList_nil ?_
  refine then_normal ?_
  refine wp_seq ?_
  refine wp_seq ?_
  refine wp_region_lit ?_
  replace H := bd1 H; obtain ⟨r5, e6, H⟩ := H
  refine ovs [7, 8] [.pointer (some ⟨B0, 0, none⟩), .int .i64 p1] hr ⟨rfl, rfl⟩ (by kernel_rfl) ?_; clear hr a; intro a hr
  have hc := cells_Arena_outside_ok (H := e6) (h := h)
  refine op_call (wn rfl) rfl rfl hr (f := 126) (args := #[.pointer (some ⟨B0, 0, none⟩), .int .i64 p1]) (by kernel_rfl) hc ?_; clear hc h
  rintro _ w ⟨rfl, h⟩; refine ⟨_, rfl, ?_⟩
  clear hr a; intro a hr
  refine wpList_nil ?_
  refine then_normal ?_
  by_cases c7 : r5 = true
  ·
    replace H := ifT c7 H
    refine cond_tt hr (b := r5) (c7) ?_
    refine wp_seq ?_
    refine wp_region_lit ?_
    refine ov hr (.int .i64 20) (by kernel_rfl) ?_; clear hr a; intro a hr
    refine wpList_nil ?_
    refine then_normal ?_
    refine wp_ret ?_
    refine then_ret ?_
    refine end_ret1 (v := .int .i64 20) rfl hr (by kernel_rfl) ?_
    replace H := ej2 H; obtain ⟨rfl, rfl⟩ := H
    exact ⟨ca1, cc2, ca3, cc4, rfl, h⟩
  ·
    replace H := ifF c7 H
    refine cond_ff hr (b := r5) (bF c7) ?_
    refine wp_skip ?_
    refine then_normal ?_
    refine wp_seq ?_
    refine wp_region_lit ?_
    refine ovs [10, 11, 12] [.pointer (some ⟨B0, 0, none⟩), .pointer (some ⟨B0, 0, none⟩), .pointer (some ⟨B0, 2, none⟩)] hr ⟨rfl, rfl⟩ (by kernel_rfl) ?_; clear hr a; intro a hr
    refine op_val (wn rfl) rfl rfl hr (v := .slice ca1 p0.cell.length cc2) (rl rfl (by kernel_rfl) (by kernel_rfl) (h.cell 2 rfl)) ?_; clear hr a; intro a hr
    replace H := gd H; obtain ⟨c8, H⟩ := H
    refine ovs [14, 15] [.int .i64 p1, .int .i64 p2] hr ⟨rfl, rfl⟩ (by kernel_rfl) ?_; clear hr a; intro a hr
    refine op_val (wn rfl) rfl rfl hr (v := .pointer (some ⟨blk ca1, p1.toNat * 1, none⟩)) (ri_row (k := .i64) (E := 2) rfl (by kernel_rfl) (by kernel_rfl) (by kernel_rfl) (by kernel_rfl) (h.pick 1) c8) ?_; clear hr a; intro a hr
    replace h : Fit z (sepL (ro2 ca1 cc2 p0.cell :: ob103 B0 p0 ca1 cc2 ca3 cc4 :: ro96 ca3 cc4 p0.log :: L)) _ := h.sel 3 [1, 0, 2] (by kernel_rfl) (by kernel_rfl)
    refine op_store_row (wn rfl) rfl hr rfl (by kernel_rfl) (by kernel_rfl) (v := .int .i64 p2) rfl rfl (by kernel_rfl) encZ_i64_ok h (i := p1.toNat) (f := 0) (p := (at_ p0.cell p1.toNat)) (q := p2) (at_ok c8) (by decide) rfl ?_; clear h; intro w h
    replace h : Fit z (sepL (rowOf 2 1 encZ_i64 (.slice ca1 p0.cell.length cc2) (p0.cell.set p1.toNat p2) :: ob103 B0 p0 ca1 cc2 ca3 cc4 :: ro96 ca3 cc4 p0.log :: L)) _ := h
    refine wpList_nil ?_
    refine then_normal ?_
    refine wp_seq ?_
    refine wp_region_lit ?_
    refine ovs [17, 18, 19] [.pointer (some ⟨B0, 0, none⟩), .int .i64 p1, .int .i64 p2] hr ⟨rfl, rfl⟩ (by kernel_rfl) ?_; clear hr a; intro a hr
    have hn8 := h.row_n
    replace h : Fit z (sepL (ro2 ca1 cc2 (p0.cell.set p1.toNat p2) :: pts B0 (.cells #[.int .i64 p0.ledger_size, .int .i64 p0.ledger_mark, .slice ca1 ((p0.cell.set p1.toNat p2).length) cc2, .slice ca3 p0.log.length cc4, .int .i64 p0.actor, .bool p0.watched] 103) :: ro96 ca3 cc4 p0.log :: L)) w := (congrArg (fun q_ : Nat => Fit z (sepL (rowOf 2 1 encZ_i64 (.slice ca1 q_ cc2) (p0.cell.set p1.toNat p2) :: pts B0 (.cells #[.int .i64 p0.ledger_size, .int .i64 p0.ledger_mark, .slice ca1 q_ cc2, .slice ca3 p0.log.length cc4, .int .i64 p0.actor, .bool p0.watched] 103) :: ro96 ca3 cc4 p0.log :: L)) w) h.row_n).mp h
    replace H := bd1 H; obtain ⟨S10, e11, H⟩ := H
    replace h : Fit z (sepL (pts B0 (.cells #[.int .i64 p0.ledger_size, .int .i64 p0.ledger_mark, .slice ca1 ((p0.cell.set p1.toNat p2).length) cc2, .slice ca3 p0.log.length cc4, .int .i64 p0.actor, .bool p0.watched] 103) :: ro2 ca1 cc2 (p0.cell.set p1.toNat p2) :: ro96 ca3 cc4 p0.log :: L)) _ := h.sel 3 [1, 0, 2] (by kernel_rfl) (by kernel_rfl)
    have hc := cells_Arena_note_ok (H := e11) (h := h)
    refine op_call (wn rfl) rfl rfl hr (f := 63) (args := #[.pointer (some ⟨B0, 0, none⟩), .int .i64 1, .int .i64 p1, .int .i64 p2, .int .i64 0, .bool true]) (by kernel_rfl) hc ?_; clear hc h
    rintro _ w ⟨caq12, ccq13, caq14, ccq15, rfl, h⟩; refine ⟨_, rfl, ?_⟩
    clear hr a; intro a hr
    refine wpList_nil ?_
    refine then_normal ?_
    refine wp_seq ?_
    refine wp_region_lit ?_
    refine ov hr (.int .i64 0) (by kernel_rfl) ?_; clear hr a; intro a hr
    refine wpList_nil ?_
    refine then_normal ?_
    refine wp_ret ?_
    refine end_ret1 (v := .int .i64 0) rfl hr (by kernel_rfl) ?_
    replace H := ej2 H; obtain ⟨rfl, rfl⟩ := H
    exact ⟨caq12, ccq13, caq14, ccq15, rfl, h⟩

def frames_New_iface_l1 (K : Nat) (p1 : Int) (r11 : Int) : Nat → T_cells_Arena → Int → Option (T_frames_Table × Int × T_cells_Arena)
  | 0, _, _ => none
  | k1 + 1, S21, g26 => (if g26 < p1 then ob1 (frames_Table__join (⟨r11, p1⟩ : T_frames_Table) g26) (fun r28 => ob2 (cells_Arena_Store S21 r28 1) (fun r30 S31 => (if r30 = (0 : Int) then (frames_New_iface_l1 K p1 r11 k1 S31 (wi (g26 + (1 : Int)))) else some ((⟨0, 0⟩ : T_frames_Table), r30, S31)))) else some ((⟨r11, p1⟩ : T_frames_Table), 0, S21))
/-- plunder/frames.New -/
def frames_New_iface (K : Nat) (p0 : T_cells_Arena) (p1 : Int) : Option (T_frames_Table × Int × T_cells_Arena) :=
  ob1 (frames_Cells p1) (fun r6 => (if r6 = (0 : Int) then some ((⟨0, 0⟩ : T_frames_Table), 3, p0) else ob1 (frames_Cells p1) (fun r9 => ob3 (cells_Arena_Reserve p0 r9) (fun r11 r12 S13 => (if r12 = (0 : Int) then (frames_New_iface_l1 K p1 r11 K S13 0) else some ((⟨0, 0⟩ : T_frames_Table), r12, S13))))))
set_option maxRecDepth 100000 in
set_option maxHeartbeats 4000000 in
theorem frames_New_iface_ok {z w : World} {L : List HProp} {K : Nat} {p0 : T_cells_Arena} {p1 : Int} {B0 : Nat} {ca1 : Option Addr} {cc2 : Nat} {ca3 : Option Addr} {cc4 : Nat} {r0 : T_frames_Table} {r1 : Int} {q0 : T_cells_Arena} (H : frames_New_iface K p0 p1 = some (r0, r1, q0)) (h : Fit z (sepL (ob103 B0 p0 ca1 cc2 ca3 cc4 :: ro2 ca1 cc2 p0.cell :: ro96 ca3 cc4 p0.log :: L)) w)  :
    Calls Try.prog 19 #[.iface 26 (.pointer (some ⟨B0, 0, none⟩)), .int .i64 p1] w fun e w => ∃ caq0_1 : Option Addr, ∃ ccq0_2 : Nat, ∃ caq0_3 : Option Addr, ∃ ccq0_4 : Nat, e = .returned (.tuple #[.agg #[.int .i64 r0.Base, .int .i64 r0.Frames], .int .i64 r1]) ∧ Fit z (sepL (ob103 B0 q0 caq0_1 ccq0_2 caq0_3 ccq0_4 :: ro2 caq0_1 ccq0_2 q0.cell :: ro96 caq0_3 ccq0_4 q0.log :: L)) w := by
  unfold frames_New_iface at H
  refine enter Try.func19 rfl 53 rfl rfl [(0, .iface 26 (.pointer (some ⟨B0, 0, none⟩))), (1, .int .i64 p1)] ⟨rfl, rfl, trivial⟩ ?_
  intro j a hr
  refine wp_seq ?_
  refine wp_region_lit ?_
  refine op_new (wn rfl) rfl rfl hr h (vf := fun b => .pointer (some ⟨b, 0, none⟩)) (cs := #[.int .i64 0, .int .i64 0]) (T := 39) (by kernel_rfl) ?_; clear h hr a; intro b5 w a h hr
  refine ov hr (.int .i64 0) (by kernel_rfl) ?_; clear hr a; intro a hr
  refine wpList_nil ?_
  refine then_normal ?_
  refine wp_seq ?_
  refine wp_seq ?_
  refine wp_region_lit ?_
  refine ovs [11, 12] [.iface 26 (.pointer (some ⟨B0, 0, none⟩)), .bool false] hr ⟨rfl, rfl⟩ (by kernel_rfl) ?_; clear hr a; intro a hr
  refine wpList_nil ?_
  refine then_normal ?_
  refine cond_ff hr (b := false) rfl ?_
  refine wp_skip ?_
  refine then_normal ?_
  refine wp_seq ?_
  refine wp_seq ?_
  refine wp_region_lit ?_
  replace H := bd1 H; obtain ⟨r6, e7, H⟩ := H
  refine ov hr (.int .i64 p1) (by kernel_rfl) ?_; clear hr a; intro a hr
  have hc := frames_Cells_ok (H := e7) (h := h)
  refine op_call (wn rfl) rfl rfl hr (f := 15) (args := #[.int .i64 p1]) (by kernel_rfl) hc ?_; clear hc h
  rintro _ w ⟨rfl, h⟩; refine ⟨_, rfl, ?_⟩
  clear hr a; intro a hr
  refine ov hr (.bool (r6 == (0 : Int))) (by kernel_rfl) ?_; clear hr a; intro a hr
  refine wpList_nil ?_
  refine then_normal ?_
  by_cases c8 : r6 = (0 : Int)
  ·
    replace H := ifT c8 H
    refine cond_tt hr (b := (r6 == (0 : Int))) (beq_iff_eq.mpr c8) ?_
    refine wp_seq ?_
    refine wp_region_lit ?_
    refine ov hr (.agg #[.int .i64 0, .int .i64 0]) (by kernel_rfl) ?_; clear hr a; intro a hr
    refine op_stores (wn rfl) rfl hr rfl (by kernel_rfl) (by kernel_rfl) (vs := [.int .i64 0, .int .i64 0]) rfl rfl (by kernel_rfl) h (i := 0) (cs' := #[.int .i64 0, .int .i64 0]) rfl ?_; clear h; intro w h
    refine ov hr (.int .i64 3) (by kernel_rfl) ?_; clear hr a; intro a hr
    refine wpList_nil ?_
    replace h : Fit z (sepL (pts b5 (.cells #[.int .i64 0, .int .i64 0] 39) :: ob103 B0 p0 ca1 cc2 ca3 cc4 :: ro2 ca1 cc2 p0.cell :: ro96 ca3 cc4 p0.log :: L)) _ := h
    refine then_normal ?_
    refine wp_ret ?_
    refine then_ret ?_
    refine end_retCT (cs := [.int .i64 0, .int .i64 0]) (v := .int .i64 3) rfl hr (by kernel_rfl) (by kernel_rfl) (by kernel_rfl) (by kernel_rfl) ⟨h.cell 0 rfl, h.cell 1 rfl, trivial⟩ ?_
    replace h : Fit z (sepL (ob103 B0 p0 ca1 cc2 ca3 cc4 :: ro2 ca1 cc2 p0.cell :: ro96 ca3 cc4 p0.log :: L)) _ := h.sel 4 [1, 2, 3] (by kernel_rfl) (by kernel_rfl)
    replace H := ej3 H; obtain ⟨rfl, rfl, rfl⟩ := H
    exact ⟨ca1, cc2, ca3, cc4, rfl, h⟩
  ·
    replace H := ifF c8 H
    refine cond_ff hr (b := (r6 == (0 : Int))) (beq_eq_false_iff_ne.mpr c8) ?_
    refine wp_skip ?_
    refine then_normal ?_
    refine wp_seq ?_
    replace H := bd1 H; obtain ⟨r9, e10, H⟩ := H
    replace H := bd3 H; obtain ⟨r11, r12, S13, e14, H⟩ := H
    refine reg_E (fun w => True) [] h (by kernel_rfl) ?_; intro w h
    change wpAnyE _ _ _ _ _ _ 12 (Array.replicate 12 false) a w
    refine ev 11 0 rfl (by kernel_rfl) (wn rfl) hr (.iface 26 (.pointer (some ⟨B0, 0, none⟩))) (fun w => by kernel_rfl) ?_; clear hr a; intro a hr
    refine ev 10 1 rfl (by kernel_rfl) (wn rfl) hr (.int .i64 p1) (fun w => by kernel_rfl) ?_; clear hr a; intro a hr
    refine ev 9 3 rfl (by kernel_rfl) (wn rfl) hr (.func (.method "Reserve") #[.iface 26 (.pointer (some ⟨B0, 0, none⟩))] #[]) (fun w => by kernel_rfl) ?_; clear hr a; intro a hr
    refine ev 8 4 rfl (by kernel_rfl) (wn rfl) hr (.func (.method "Reserve") #[.iface 26 (.pointer (some ⟨B0, 0, none⟩))] #[]) (fun w => by kernel_rfl) ?_; clear hr a; intro a hr
    refine ev 7 5 rfl (by kernel_rfl) (wn rfl) hr (.iface 26 (.pointer (some ⟨B0, 0, none⟩))) (fun w => by kernel_rfl) ?_; clear hr a; intro a hr
    refine e_one (fuel := 6) (i := 2) (by kernel_rfl) rfl ?_
    have hc := frames_Cells_ok (H := e10) (h := h)
    refine op_call (wn rfl) rfl rfl hr (f := 15) (args := #[.int .i64 p1]) (by kernel_rfl) hc ?_; clear hc h
    rintro _ w ⟨rfl, h⟩; refine ⟨_, rfl, ?_⟩
    clear hr a; intro a hr
    refine wpList_nil ?_; refine then_normal ?_
    refine ⟨fun hE => absurd hE (by decide), ?_⟩
    refine e_one (fuel := 5) (i := 6) (by kernel_rfl) rfl ?_
    replace h : Fit z (sepL (ob103 B0 p0 ca1 cc2 ca3 cc4 :: ro2 ca1 cc2 p0.cell :: ro96 ca3 cc4 p0.log :: pts b5 (.cells #[.int .i64 0, .int .i64 0] 39) :: L)) _ := h.sel 4 [1, 2, 3, 0] (by kernel_rfl) (by kernel_rfl)
    have hc := cells_Arena_Reserve_ok (H := e14) (h := h)
    refine op_call (wn rfl) rfl rfl hr (f := 35) (args := #[.pointer (some ⟨B0, 0, none⟩), .int .i64 r9]) (by kernel_rfl) hc ?_; clear hc h
    rintro _ w ⟨caq15, ccq16, caq17, ccq18, rfl, h⟩; refine ⟨_, rfl, ?_⟩
    clear hr a; intro a hr
    refine wpList_nil ?_; refine then_normal ?_
    refine ⟨fun hE => absurd hE (by decide), ?_⟩
    refine ev 4 7 rfl (by kernel_rfl) (wn rfl) hr (.tuple #[.int .i64 r11, .int .i64 r12]) (fun w => by kernel_rfl) ?_; clear hr a; intro a hr
    refine ev 3 8 rfl (by kernel_rfl) (wn rfl) hr (.int .i64 r11) (fun w => by kernel_rfl) ?_; clear hr a; intro a hr
    refine ev 2 9 rfl (by kernel_rfl) (wn rfl) hr (.int .i64 r12) (fun w => by kernel_rfl) ?_; clear hr a; intro a hr
    refine ev 1 10 rfl (by kernel_rfl) (wn rfl) hr (.int .i64 r11) (fun w => by kernel_rfl) ?_; clear hr a; intro a hr
    refine ev 0 11 rfl (by kernel_rfl) (wn rfl) hr (.int .i64 r12) (fun w => by kernel_rfl) ?_; clear hr a; intro a hr
    refine e_end (by kernel_rfl) ?_
    refine then_normal ?_
    refine wp_seq ?_
    refine wp_seq ?_
    refine wp_region_lit ?_
    refine ovs [28, 29] [.int .i64 r12, .bool (r12 != (0 : Int))] hr ⟨rfl, rfl⟩ (by kernel_rfl) ?_; clear hr a; intro a hr
    refine wpList_nil ?_
    refine then_normal ?_
    by_cases c19 : r12 = (0 : Int)
    ·
      replace H := ifT c19 H
      refine cond_ff hr (b := (r12 != (0 : Int))) (bne_eq_false_iff_eq.mpr c19) ?_
      refine wp_skip ?_
      refine then_normal ?_
      refine wp_seq ?_
      refine wp_region_lit ?_
      refine ovs [32, 33, 34] [.int .i64 r11, .int .i64 p1, .agg #[.int .i64 r11, .int .i64 p1]] hr ⟨rfl, rfl⟩ (by kernel_rfl) ?_; clear hr a; intro a hr
      refine op_new (wn rfl) rfl rfl hr h (vf := fun b => .pointer (some ⟨b, 0, none⟩)) (cs := #[.int .i64 0, .int .i64 0]) (T := 39) (by kernel_rfl) ?_; clear h hr a; intro b20 w a h hr
      refine op_stores (wn rfl) rfl hr rfl (by kernel_rfl) (by kernel_rfl) (vs := [.int .i64 r11, .int .i64 p1]) rfl rfl (by kernel_rfl) h (i := 0) (cs' := #[.int .i64 r11, .int .i64 p1]) rfl ?_; clear h; intro w h
      refine wpList_nil ?_
      replace h : Fit z (sepL (pts b20 (.cells #[.int .i64 r11, .int .i64 p1] 39) :: ob103 B0 S13 caq15 ccq16 caq17 ccq18 :: ro2 caq15 ccq16 S13.cell :: ro96 caq17 ccq18 S13.log :: pts b5 (.cells #[.int .i64 0, .int .i64 0] 39) :: L)) _ := h
      refine then_normal ?_
      refine wp_seq ?_
      refine wp_seq ?_
      refine wp_region_lit ?_
      refine ovs [35, 36] [.int .i64 p1, .int .i64 0] hr ⟨rfl, rfl⟩ (by kernel_rfl) ?_; clear hr a; intro a hr
      refine wpList_nil ?_
      refine then_normal ?_
      refine wp_block ?_
      replace hr := hr.fold2 [(0, .iface 26 (.pointer (some ⟨B0, 0, none⟩))), (4, .pointer (some ⟨b5, 0, none⟩)), (8, .pointer (some ⟨b20, 0, none⟩)), (35, .int .i64 p1), (36, .int .i64 0)] (by kernel_rfl); obtain ⟨j, hr⟩ := hr
      replace h : Fit z (sepL (ob103 B0 S13 caq15 ccq16 caq17 ccq18 :: ro2 caq15 ccq16 S13.cell :: ro96 caq17 ccq18 S13.log :: pts b5 (.cells #[.int .i64 0, .int .i64 0] 39) :: pts b20 (.cells #[.int .i64 r11, .int .i64 p1] 39) :: L)) _ := h.sel 5 [1, 2, 3, 4, 0] (by kernel_rfl) (by kernel_rfl)
      refine loop_rule (β := Nat) id (fun m a w => ∃ ca22 : Option Addr, ∃ cc23 : Nat, ∃ ca24 : Option Addr, ∃ cc25 : Nat, ∃ S21 : T_cells_Arena, ∃ g26 : Int, (frames_New_iface_l1 K p1 r11 m S21 g26) = some (r0, r1, q0) ∧ ∃ j, Rep 53 (lk [(0, .iface 26 (.pointer (some ⟨B0, 0, none⟩))), (4, .pointer (some ⟨b5, 0, none⟩)), (8, .pointer (some ⟨b20, 0, none⟩)), (35, .int .i64 p1), (36, .int .i64 g26)] j) a ∧ Fit z (sepL (ob103 B0 S21 ca22 cc23 ca24 cc25 :: ro2 ca22 cc23 S21.cell :: ro96 ca24 cc25 S21.log :: pts b5 (.cells #[.int .i64 0, .int .i64 0] 39) :: pts b20 (.cells #[.int .i64 r11, .int .i64 p1] 39) :: L)) w) K ⟨caq15, ccq16, caq17, ccq18, S13, 0, H, j, hr, h⟩ ?_
      clear h hr a H; rintro k1 a w ⟨ca22, cc23, ca24, cc25, S21, g26, H, j, hr, h⟩
      cases k1 with
      | zero => exact absurd H (by simp [frames_New_iface_l1])
      | succ k1 =>
        rw [frames_New_iface_l1] at H
        refine wp_seq ?_
        refine wp_region_lit ?_
        refine ov hr (.bool (decide (g26 < p1))) (by kernel_rfl) ?_; clear hr a; intro a hr
        refine wpList_nil ?_
        refine then_normal ?_
        refine wp_seq ?_
        by_cases c27 : g26 < p1
        ·
          replace H := ifT c27 H
          refine cond_tt hr (b := (decide (g26 < p1))) (decide_eq_true c27) ?_
          refine wp_skip ?_
          refine then_normal ?_
          refine wp_seq ?_
          refine wp_block ?_
          refine wp_seq ?_
          refine wp_region_lit ?_
          refine ovs [38, 9] [.int .i64 g26, .int .i64 g26] hr ⟨rfl, rfl⟩ (by kernel_rfl) ?_; clear hr a; intro a hr
          refine wpList_nil ?_
          refine then_normal ?_
          refine wp_seq ?_
          replace H := bd1 H; obtain ⟨r28, e29, H⟩ := H
          replace H := bd2 H; obtain ⟨r30, S31, e32, H⟩ := H
          refine reg_E (fun w => heldC w b20 0 [.int .i64 r11, .int .i64 p1] ∧ True) [3, 4, 5] h (by kernel_rfl) ?_; intro w h
          change wpAnyE _ _ _ _ _ _ 9 (Array.replicate 9 false) a w
          have hgo : ∀ w w', CellsGo w w' → (heldC w b20 0 [.int .i64 r11, .int .i64 p1] ∧ True) → heldC w' b20 0 [.int .i64 r11, .int .i64 p1] ∧ True := fun w w' g hD => ⟨heldC_go _ _ _ _ _ g hD.1, trivial⟩
          refine ev 8 0 rfl (by kernel_rfl) (wn rfl) hr (.iface 26 (.pointer (some ⟨B0, 0, none⟩))) (fun w => by kernel_rfl) ?_; clear hr a; intro a hr
          refine ev 7 2 rfl (by kernel_rfl) (wn rfl) hr (.int .i64 g26) (fun w => by kernel_rfl) ?_; clear hr a; intro a hr
          refine evD hgo ⟨⟨(h.pick 4).cell 0 rfl, (h.pick 4).cell 1 rfl, trivial⟩, trivial⟩ 6 4 rfl (by kernel_rfl) (wn rfl) hr (.func (.method "Store") #[.iface 26 (.pointer (some ⟨B0, 0, none⟩))] #[]) (fun w => by kernel_rfl) ?_; clear hr a; intro a hr
          refine evD hgo ⟨⟨(h.pick 4).cell 0 rfl, (h.pick 4).cell 1 rfl, trivial⟩, trivial⟩ 5 5 rfl (by kernel_rfl) (wn rfl) hr (.func (.method "Store") #[.iface 26 (.pointer (some ⟨B0, 0, none⟩))] #[]) (fun w => by kernel_rfl) ?_; clear hr a; intro a hr
          refine ev 4 6 rfl (by kernel_rfl) (wn rfl) hr (.iface 26 (.pointer (some ⟨B0, 0, none⟩))) (fun w => by kernel_rfl) ?_; clear hr a; intro a hr
          refine el [3, 4, 5] (b := b20) (off := 0) (cs := [.int .i64 r11, .int .i64 p1]) (fun _ hk => ⟨hk, fun w hD => hD.1⟩) 3 1 rfl (by kernel_rfl) (wn rfl) hr (.agg #[.int .i64 r11, .int .i64 p1]) ⟨(h.pick 4).cell 0 rfl, (h.pick 4).cell 1 rfl, trivial⟩ (fun w hc => rlm (cs := [.int .i64 r11, .int .i64 p1]) rfl (by kernel_rfl) (by kernel_rfl) (by kernel_rfl) hc) ?_; clear hr a; intro a hr
          refine e_one (fuel := 2) (i := 3) (by kernel_rfl) rfl ?_
          have hc := frames_Table__join_ok (H := e29) (h := h)
          refine op_call (wn rfl) rfl rfl hr (f := 54) (args := #[.agg #[.int .i64 r11, .int .i64 p1], .int .i64 g26]) (by kernel_rfl) hc ?_; clear hc h
          rintro _ w ⟨rfl, h⟩; refine ⟨_, rfl, ?_⟩
          clear hr a; intro a hr
          refine wpList_nil ?_; refine then_normal ?_
          refine ⟨fun _ => ⟨⟨(h.pick 4).cell 0 rfl, (h.pick 4).cell 1 rfl, trivial⟩, trivial⟩, ?_⟩
          refine e_one (fuel := 1) (i := 7) (by kernel_rfl) rfl ?_
          have hc := cells_Arena_Store_ok (H := e32) (h := h)
          refine op_call (wn rfl) rfl rfl hr (f := 125) (args := #[.pointer (some ⟨B0, 0, none⟩), .int .i64 r28, .int .i64 1]) (by kernel_rfl) hc ?_; clear hc h
          rintro _ w ⟨caq33, ccq34, caq35, ccq36, rfl, h⟩; refine ⟨_, rfl, ?_⟩
          clear hr a; intro a hr
          refine wpList_nil ?_; refine then_normal ?_
          refine ⟨fun hE => absurd hE (by decide), ?_⟩
          refine ev 0 8 rfl (by kernel_rfl) (wn rfl) hr (.int .i64 r30) (fun w => by kernel_rfl) ?_; clear hr a; intro a hr
          refine e_end (by kernel_rfl) ?_
          refine then_normal ?_
          refine wp_seq ?_
          refine wp_region_lit ?_
          refine ovs [47, 48] [.int .i64 r30, .bool (r30 != (0 : Int))] hr ⟨rfl, rfl⟩ (by kernel_rfl) ?_; clear hr a; intro a hr
          refine wpList_nil ?_
          refine then_normal ?_
          by_cases c37 : r30 = (0 : Int)
          ·
            replace H := ifT c37 H
            refine cond_ff hr (b := (r30 != (0 : Int))) (bne_eq_false_iff_eq.mpr c37) ?_
            refine wp_skip ?_
            refine blk_normal ?_
            refine then_normal ?_
            refine wp_region_lit ?_
            refine ovs [51, 36] [.int .i64 (wi (g26 + (1 : Int))), .int .i64 (wi (g26 + (1 : Int)))] hr ⟨rfl, rfl⟩ (by kernel_rfl) ?_; clear hr a; intro a hr
            refine wpList_nil ?_
            refine then_normal ?_
            replace hr := hr.fold2 [(0, .iface 26 (.pointer (some ⟨B0, 0, none⟩))), (4, .pointer (some ⟨b5, 0, none⟩)), (8, .pointer (some ⟨b20, 0, none⟩)), (35, .int .i64 p1), (36, .int .i64 (wi (g26 + (1 : Int))))] (by kernel_rfl); obtain ⟨j, hr⟩ := hr
            exact ⟨_, ⟨caq33, ccq34, caq35, ccq36, S31, (wi (g26 + (1 : Int))), H, j, hr, h⟩, Nat.lt_succ_self _⟩
          ·
            replace H := ifF c37 H
            refine cond_tt hr (b := (r30 != (0 : Int))) (bne_iff_ne.mpr c37) ?_
            refine wp_seq ?_
            refine wp_region_lit ?_
            refine ovs [49, 50] [.agg #[.int .i64 0, .int .i64 0], .int .i64 r30] hr ⟨rfl, rfl⟩ (by kernel_rfl) ?_; clear hr a; intro a hr
            replace h : Fit z (sepL (pts b5 (.cells #[.int .i64 0, .int .i64 0] 39) :: ob103 B0 S31 caq33 ccq34 caq35 ccq36 :: ro2 caq33 ccq34 S31.cell :: ro96 caq35 ccq36 S31.log :: pts b20 (.cells #[.int .i64 r11, .int .i64 p1] 39) :: L)) _ := h.sel 5 [3, 0, 1, 2, 4] (by kernel_rfl) (by kernel_rfl)
            refine op_stores (wn rfl) rfl hr rfl (by kernel_rfl) (by kernel_rfl) (vs := [.int .i64 0, .int .i64 0]) rfl rfl (by kernel_rfl) h (i := 0) (cs' := #[.int .i64 0, .int .i64 0]) rfl ?_; clear h; intro w h
            refine ov hr (.int .i64 r30) (by kernel_rfl) ?_; clear hr a; intro a hr
            refine wpList_nil ?_
            replace h : Fit z (sepL (pts b5 (.cells #[.int .i64 0, .int .i64 0] 39) :: ob103 B0 S31 caq33 ccq34 caq35 ccq36 :: ro2 caq33 ccq34 S31.cell :: ro96 caq35 ccq36 S31.log :: pts b20 (.cells #[.int .i64 r11, .int .i64 p1] 39) :: L)) _ := h
            refine then_normal ?_
            refine wp_ret ?_
            refine blk_ret ?_
            refine then_ret ?_
            refine then_ret ?_
            refine blk_ret ?_
            refine then_ret ?_
            refine end_retCT (cs := [.int .i64 0, .int .i64 0]) (v := .int .i64 r30) rfl hr (by kernel_rfl) (by kernel_rfl) (by kernel_rfl) (by kernel_rfl) ⟨h.cell 0 rfl, h.cell 1 rfl, trivial⟩ ?_
            replace h : Fit z (sepL (ob103 B0 S31 caq33 ccq34 caq35 ccq36 :: ro2 caq33 ccq34 S31.cell :: ro96 caq35 ccq36 S31.log :: L)) _ := h.sel 5 [1, 2, 3] (by kernel_rfl) (by kernel_rfl)
            replace H := ej3 H; obtain ⟨rfl, rfl, rfl⟩ := H
            exact ⟨caq33, ccq34, caq35, ccq36, rfl, h⟩
        ·
          replace H := ifF c27 H
          refine cond_ff hr (b := (decide (g26 < p1))) (decide_eq_false c27) ?_
          refine wp_exit ?_
          refine then_exit ?_
          refine then_exit ?_
          refine blk_here ?_
          refine then_normal ?_
          refine wp_seq ?_
          refine wp_region_lit ?_
          refine op_val (wn rfl) rfl rfl hr (v := .agg #[.int .i64 r11, .int .i64 p1]) (rlm (cs := [.int .i64 r11, .int .i64 p1]) rfl (by kernel_rfl) (by kernel_rfl) (by kernel_rfl) ⟨(h.pick 4).cell 0 rfl, (h.pick 4).cell 1 rfl, trivial⟩) ?_; clear hr a; intro a hr
          replace h : Fit z (sepL (pts b5 (.cells #[.int .i64 0, .int .i64 0] 39) :: ob103 B0 S21 ca22 cc23 ca24 cc25 :: ro2 ca22 cc23 S21.cell :: ro96 ca24 cc25 S21.log :: pts b20 (.cells #[.int .i64 r11, .int .i64 p1] 39) :: L)) _ := h.sel 5 [3, 0, 1, 2, 4] (by kernel_rfl) (by kernel_rfl)
          refine op_stores (wn rfl) rfl hr rfl (by kernel_rfl) (by kernel_rfl) (vs := [.int .i64 r11, .int .i64 p1]) rfl rfl (by kernel_rfl) h (i := 0) (cs' := #[.int .i64 r11, .int .i64 p1]) rfl ?_; clear h; intro w h
          refine ov hr (.int .i64 0) (by kernel_rfl) ?_; clear hr a; intro a hr
          refine wpList_nil ?_
          replace h : Fit z (sepL (pts b5 (.cells #[.int .i64 r11, .int .i64 p1] 39) :: ob103 B0 S21 ca22 cc23 ca24 cc25 :: ro2 ca22 cc23 S21.cell :: ro96 ca24 cc25 S21.log :: pts b20 (.cells #[.int .i64 r11, .int .i64 p1] 39) :: L)) _ := h
          refine then_normal ?_
          refine wp_ret ?_
          refine end_retCT (cs := [.int .i64 r11, .int .i64 p1]) (v := .int .i64 0) rfl hr (by kernel_rfl) (by kernel_rfl) (by kernel_rfl) (by kernel_rfl) ⟨h.cell 0 rfl, h.cell 1 rfl, trivial⟩ ?_
          replace h : Fit z (sepL (ob103 B0 S21 ca22 cc23 ca24 cc25 :: ro2 ca22 cc23 S21.cell :: ro96 ca24 cc25 S21.log :: L)) _ := h.sel 5 [1, 2, 3] (by kernel_rfl) (by kernel_rfl)
          replace H := ej3 H; obtain ⟨rfl, rfl, rfl⟩ := H
          exact ⟨ca22, cc23, ca24, cc25, rfl, h⟩
    ·
      replace H := ifF c19 H
      refine cond_tt hr (b := (r12 != (0 : Int))) (bne_iff_ne.mpr c19) ?_
      refine wp_seq ?_
      refine wp_region_lit ?_
      refine ovs [30, 31] [.agg #[.int .i64 0, .int .i64 0], .int .i64 r12] hr ⟨rfl, rfl⟩ (by kernel_rfl) ?_; clear hr a; intro a hr
      replace h : Fit z (sepL (pts b5 (.cells #[.int .i64 0, .int .i64 0] 39) :: ob103 B0 S13 caq15 ccq16 caq17 ccq18 :: ro2 caq15 ccq16 S13.cell :: ro96 caq17 ccq18 S13.log :: L)) _ := h.sel 4 [3, 0, 1, 2] (by kernel_rfl) (by kernel_rfl)
      refine op_stores (wn rfl) rfl hr rfl (by kernel_rfl) (by kernel_rfl) (vs := [.int .i64 0, .int .i64 0]) rfl rfl (by kernel_rfl) h (i := 0) (cs' := #[.int .i64 0, .int .i64 0]) rfl ?_; clear h; intro w h
      refine ov hr (.int .i64 r12) (by kernel_rfl) ?_; clear hr a; intro a hr
      refine wpList_nil ?_
      replace h : Fit z (sepL (pts b5 (.cells #[.int .i64 0, .int .i64 0] 39) :: ob103 B0 S13 caq15 ccq16 caq17 ccq18 :: ro2 caq15 ccq16 S13.cell :: ro96 caq17 ccq18 S13.log :: L)) _ := h
      refine then_normal ?_
      refine wp_ret ?_
      refine then_ret ?_
      refine end_retCT (cs := [.int .i64 0, .int .i64 0]) (v := .int .i64 r12) rfl hr (by kernel_rfl) (by kernel_rfl) (by kernel_rfl) (by kernel_rfl) ⟨h.cell 0 rfl, h.cell 1 rfl, trivial⟩ ?_
      replace h : Fit z (sepL (ob103 B0 S13 caq15 ccq16 caq17 ccq18 :: ro2 caq15 ccq16 S13.cell :: ro96 caq17 ccq18 S13.log :: L)) _ := h.sel 4 [1, 2, 3] (by kernel_rfl) (by kernel_rfl)
      replace H := ej3 H; obtain ⟨rfl, rfl, rfl⟩ := H
      exact ⟨caq15, ccq16, caq17, ccq18, rfl, h⟩

/-- (plunder/frames.Table).has -/
def frames_Table__has (p0 : T_frames_Table) (p1 : Int) : Option (Bool) :=
  (if p0.Base ≥ (0 : Int) then (if p0.Frames ≥ (1 : Int) then (if p0.Frames ≤ (4096 : Int) then (if p1 ≥ (0 : Int) then some (decide (p1 < p0.Frames)) else some false) else some false) else some false) else some false)
set_option maxRecDepth 100000 in
set_option maxHeartbeats 4000000 in
theorem frames_Table__has_ok {z w : World} {L : List HProp} {p0 : T_frames_Table} {p1 : Int} {r0 : Bool} (H : frames_Table__has p0 p1 = some r0) (h : Fit z (sepL (L)) w)  :
    Calls Try.prog 80 #[.agg #[.int .i64 p0.Base, .int .i64 p0.Frames], .int .i64 p1] w fun e w => e = .returned (.bool r0) ∧ Fit z (sepL (L)) w := by
  unfold frames_Table__has at H
  refine enter Try.func80 rfl 28 rfl rfl [(0, .agg #[.int .i64 p0.Base, .int .i64 p0.Frames]), (1, .int .i64 p1)] ⟨rfl, rfl, trivial⟩ ?_
  intro j a hr
  refine wp_seq ?_
  refine wp_region_lit ?_
  refine op_new (wn rfl) rfl rfl hr h (vf := fun b => .pointer (some ⟨b, 0, none⟩)) (cs := #[.int .i64 p0.Base, .int .i64 p0.Frames]) (T := 39) (by kernel_rfl) ?_; clear h hr a; intro b1 w a h hr
  refine ov hr (.bool false) (by kernel_rfl) ?_; clear hr a; intro a hr
  refine wpList_nil ?_
  refine then_normal ?_
  refine wp_seq ?_
  refine wp_region_lit ?_
  refine ov hr (.pointer (some ⟨b1, 0, none⟩)) (by kernel_rfl) ?_; clear hr a; intro a hr
  refine op_val (wn rfl) rfl rfl hr (v := .int .i64 p0.Base) (rl rfl (by kernel_rfl) (by kernel_rfl) (h.cell 0 rfl)) ?_; clear hr a; intro a hr
  refine ovs [7, 8] [.bool (decide (p0.Base ≥ (0 : Int))), .bool (decide (p0.Base ≥ (0 : Int)))] hr ⟨rfl, rfl⟩ (by kernel_rfl) ?_; clear hr a; intro a hr
  by_cases c2 : p0.Base ≥ (0 : Int)
  ·
    replace H := ifT c2 H
    refine op_val ((wg hr rfl rfl rfl (b' := (decide (p0.Base ≥ (0 : Int)))) (by kernel_rfl)).trans (by rw [show (decide (p0.Base ≥ (0 : Int))) = true from (decide_eq_true c2)]; rfl)) rfl rfl hr (v := .pointer (some ⟨b1, 1, none⟩)) (by kernel_rfl) ?_; clear hr a; intro a hr
    refine op_val ((wg hr rfl rfl rfl (b' := (decide (p0.Base ≥ (0 : Int)))) (by kernel_rfl)).trans (by rw [show (decide (p0.Base ≥ (0 : Int))) = true from (decide_eq_true c2)]; rfl)) rfl rfl hr (v := .int .i64 p0.Frames) (rl rfl (by kernel_rfl) (by kernel_rfl) (h.cell 1 rfl)) ?_; clear hr a; intro a hr
    refine op_val ((wg hr rfl rfl rfl (b' := (decide (p0.Base ≥ (0 : Int)))) (by kernel_rfl)).trans (by rw [show (decide (p0.Base ≥ (0 : Int))) = true from (decide_eq_true c2)]; rfl)) rfl rfl hr (v := .bool (decide (p0.Frames ≥ (1 : Int)))) (by kernel_rfl) ?_; clear hr a; intro a hr
    refine op_val (wn rfl) rfl rfl hr (v := .bool (decide (p0.Frames ≥ (1 : Int)))) (rp_t (b := (decide (p0.Base ≥ (0 : Int)))) rfl (by kernel_rfl) (decide_eq_true c2) (by kernel_rfl)) ?_; clear hr a; intro a hr
    refine ov hr (.bool (decide (p0.Frames ≥ (1 : Int)))) (by kernel_rfl) ?_; clear hr a; intro a hr
    by_cases c3 : p0.Frames ≥ (1 : Int)
    ·
      replace H := ifT c3 H
      refine op_val ((wg hr rfl rfl rfl (b' := (decide (p0.Frames ≥ (1 : Int)))) (by kernel_rfl)).trans (by rw [show (decide (p0.Frames ≥ (1 : Int))) = true from (decide_eq_true c3)]; rfl)) rfl rfl hr (v := .pointer (some ⟨b1, 1, none⟩)) (by kernel_rfl) ?_; clear hr a; intro a hr
      refine op_val ((wg hr rfl rfl rfl (b' := (decide (p0.Frames ≥ (1 : Int)))) (by kernel_rfl)).trans (by rw [show (decide (p0.Frames ≥ (1 : Int))) = true from (decide_eq_true c3)]; rfl)) rfl rfl hr (v := .int .i64 p0.Frames) (rl rfl (by kernel_rfl) (by kernel_rfl) (h.cell 1 rfl)) ?_; clear hr a; intro a hr
      refine op_val ((wg hr rfl rfl rfl (b' := (decide (p0.Frames ≥ (1 : Int)))) (by kernel_rfl)).trans (by rw [show (decide (p0.Frames ≥ (1 : Int))) = true from (decide_eq_true c3)]; rfl)) rfl rfl hr (v := .bool (decide (p0.Frames ≤ (4096 : Int)))) (by kernel_rfl) ?_; clear hr a; intro a hr
      refine op_val (wn rfl) rfl rfl hr (v := .bool (decide (p0.Frames ≤ (4096 : Int)))) (rp_t (b := (decide (p0.Frames ≥ (1 : Int)))) rfl (by kernel_rfl) (decide_eq_true c3) (by kernel_rfl)) ?_; clear hr a; intro a hr
      refine ov hr (.bool (decide (p0.Frames ≤ (4096 : Int)))) (by kernel_rfl) ?_; clear hr a; intro a hr
      by_cases c4 : p0.Frames ≤ (4096 : Int)
      ·
        replace H := ifT c4 H
        refine op_val ((wg hr rfl rfl rfl (b' := (decide (p0.Frames ≤ (4096 : Int)))) (by kernel_rfl)).trans (by rw [show (decide (p0.Frames ≤ (4096 : Int))) = true from (decide_eq_true c4)]; rfl)) rfl rfl hr (v := .int .i64 p1) (by kernel_rfl) ?_; clear hr a; intro a hr
        refine op_val ((wg hr rfl rfl rfl (b' := (decide (p0.Frames ≤ (4096 : Int)))) (by kernel_rfl)).trans (by rw [show (decide (p0.Frames ≤ (4096 : Int))) = true from (decide_eq_true c4)]; rfl)) rfl rfl hr (v := .bool (decide (p1 ≥ (0 : Int)))) (by kernel_rfl) ?_; clear hr a; intro a hr
        refine op_val (wn rfl) rfl rfl hr (v := .bool (decide (p1 ≥ (0 : Int)))) (rp_t (b := (decide (p0.Frames ≤ (4096 : Int)))) rfl (by kernel_rfl) (decide_eq_true c4) (by kernel_rfl)) ?_; clear hr a; intro a hr
        refine ov hr (.bool (decide (p1 ≥ (0 : Int)))) (by kernel_rfl) ?_; clear hr a; intro a hr
        by_cases c5 : p1 ≥ (0 : Int)
        ·
          replace H := ifT c5 H
          refine op_val ((wg hr rfl rfl rfl (b' := (decide (p1 ≥ (0 : Int)))) (by kernel_rfl)).trans (by rw [show (decide (p1 ≥ (0 : Int))) = true from (decide_eq_true c5)]; rfl)) rfl rfl hr (v := .int .i64 p1) (by kernel_rfl) ?_; clear hr a; intro a hr
          refine op_val ((wg hr rfl rfl rfl (b' := (decide (p1 ≥ (0 : Int)))) (by kernel_rfl)).trans (by rw [show (decide (p1 ≥ (0 : Int))) = true from (decide_eq_true c5)]; rfl)) rfl rfl hr (v := .pointer (some ⟨b1, 1, none⟩)) (by kernel_rfl) ?_; clear hr a; intro a hr
          refine op_val ((wg hr rfl rfl rfl (b' := (decide (p1 ≥ (0 : Int)))) (by kernel_rfl)).trans (by rw [show (decide (p1 ≥ (0 : Int))) = true from (decide_eq_true c5)]; rfl)) rfl rfl hr (v := .int .i64 p0.Frames) (rl rfl (by kernel_rfl) (by kernel_rfl) (h.cell 1 rfl)) ?_; clear hr a; intro a hr
          refine op_val ((wg hr rfl rfl rfl (b' := (decide (p1 ≥ (0 : Int)))) (by kernel_rfl)).trans (by rw [show (decide (p1 ≥ (0 : Int))) = true from (decide_eq_true c5)]; rfl)) rfl rfl hr (v := .bool (decide (p1 < p0.Frames))) (by kernel_rfl) ?_; clear hr a; intro a hr
          refine op_val (wn rfl) rfl rfl hr (v := .bool (decide (p1 < p0.Frames))) (rp_t (b := (decide (p1 ≥ (0 : Int)))) rfl (by kernel_rfl) (decide_eq_true c5) (by kernel_rfl)) ?_; clear hr a; intro a hr
          refine ov hr (.bool (decide (p1 < p0.Frames))) (by kernel_rfl) ?_; clear hr a; intro a hr
          refine wpList_nil ?_
          refine then_normal ?_
          refine wp_ret ?_
          refine end_ret1 (v := .bool (decide (p1 < p0.Frames))) rfl hr (by kernel_rfl) ?_
          replace h : Fit z (sepL (L)) _ := h.sel 1 [] (by kernel_rfl) (by kernel_rfl)
          replace H := ej1 H; subst H
          exact ⟨rfl, h⟩
        ·
          replace H := ifF c5 H
          refine op_off ((wg hr rfl rfl rfl (b' := (decide (p1 ≥ (0 : Int)))) (by kernel_rfl)).trans (by rw [show (decide (p1 ≥ (0 : Int))) = false from (decide_eq_false c5)]; rfl)) rfl rfl hr ?_; clear hr a; intro a hr
          refine op_off ((wg hr rfl rfl rfl (b' := (decide (p1 ≥ (0 : Int)))) (by kernel_rfl)).trans (by rw [show (decide (p1 ≥ (0 : Int))) = false from (decide_eq_false c5)]; rfl)) rfl rfl hr ?_; clear hr a; intro a hr
          refine op_off ((wg hr rfl rfl rfl (b' := (decide (p1 ≥ (0 : Int)))) (by kernel_rfl)).trans (by rw [show (decide (p1 ≥ (0 : Int))) = false from (decide_eq_false c5)]; rfl)) rfl rfl hr ?_; clear hr a; intro a hr
          refine op_off ((wg hr rfl rfl rfl (b' := (decide (p1 ≥ (0 : Int)))) (by kernel_rfl)).trans (by rw [show (decide (p1 ≥ (0 : Int))) = false from (decide_eq_false c5)]; rfl)) rfl rfl hr ?_; clear hr a; intro a hr
          refine op_val (wn rfl) rfl rfl hr (v := .bool false) (rp_f (b := (decide (p1 ≥ (0 : Int)))) rfl (by kernel_rfl) (decide_eq_false c5) (by kernel_rfl)) ?_; clear hr a; intro a hr
          refine ov hr (.bool false) (by kernel_rfl) ?_; clear hr a; intro a hr
          refine wpList_nil ?_
          refine then_normal ?_
          refine wp_ret ?_
          refine end_ret1 (v := .bool false) rfl hr (by kernel_rfl) ?_
          replace h : Fit z (sepL (L)) _ := h.sel 1 [] (by kernel_rfl) (by kernel_rfl)
          replace H := ej1 H; subst H
          exact ⟨rfl, h⟩
      ·
        replace H := ifF c4 H
        refine op_off ((wg hr rfl rfl rfl (b' := (decide (p0.Frames ≤ (4096 : Int)))) (by kernel_rfl)).trans (by rw [show (decide (p0.Frames ≤ (4096 : Int))) = false from (decide_eq_false c4)]; rfl)) rfl rfl hr ?_; clear hr a; intro a hr
        refine op_off ((wg hr rfl rfl rfl (b' := (decide (p0.Frames ≤ (4096 : Int)))) (by kernel_rfl)).trans (by rw [show (decide (p0.Frames ≤ (4096 : Int))) = false from (decide_eq_false c4)]; rfl)) rfl rfl hr ?_; clear hr a; intro a hr
        refine op_val (wn rfl) rfl rfl hr (v := .bool false) (rp_f (b := (decide (p0.Frames ≤ (4096 : Int)))) rfl (by kernel_rfl) (decide_eq_false c4) (by kernel_rfl)) ?_; clear hr a; intro a hr
        refine ov hr (.bool false) (by kernel_rfl) ?_; clear hr a; intro a hr
        refine op_off ((wg hr rfl rfl rfl (b' := false) (by kernel_rfl)).trans rfl) rfl rfl hr ?_; clear hr a; intro a hr
        refine op_off ((wg hr rfl rfl rfl (b' := false) (by kernel_rfl)).trans rfl) rfl rfl hr ?_; clear hr a; intro a hr
        refine op_off ((wg hr rfl rfl rfl (b' := false) (by kernel_rfl)).trans rfl) rfl rfl hr ?_; clear hr a; intro a hr
        refine op_off ((wg hr rfl rfl rfl (b' := false) (by kernel_rfl)).trans rfl) rfl rfl hr ?_; clear hr a; intro a hr
        refine ovs [27, 4] [.bool false, .bool false] hr ⟨rfl, rfl⟩ (by kernel_rfl) ?_; clear hr a; intro a hr
        refine wpList_nil ?_
        refine then_normal ?_
        refine wp_ret ?_
        refine end_ret1 (v := .bool false) rfl hr (by kernel_rfl) ?_
        replace h : Fit z (sepL (L)) _ := h.sel 1 [] (by kernel_rfl) (by kernel_rfl)
        replace H := ej1 H; subst H
        exact ⟨rfl, h⟩
    ·
      replace H := ifF c3 H
      refine op_off ((wg hr rfl rfl rfl (b' := (decide (p0.Frames ≥ (1 : Int)))) (by kernel_rfl)).trans (by rw [show (decide (p0.Frames ≥ (1 : Int))) = false from (decide_eq_false c3)]; rfl)) rfl rfl hr ?_; clear hr a; intro a hr
      refine op_off ((wg hr rfl rfl rfl (b' := (decide (p0.Frames ≥ (1 : Int)))) (by kernel_rfl)).trans (by rw [show (decide (p0.Frames ≥ (1 : Int))) = false from (decide_eq_false c3)]; rfl)) rfl rfl hr ?_; clear hr a; intro a hr
      refine op_off ((wg hr rfl rfl rfl (b' := (decide (p0.Frames ≥ (1 : Int)))) (by kernel_rfl)).trans (by rw [show (decide (p0.Frames ≥ (1 : Int))) = false from (decide_eq_false c3)]; rfl)) rfl rfl hr ?_; clear hr a; intro a hr
      refine op_val (wn rfl) rfl rfl hr (v := .bool false) (rp_f (b := (decide (p0.Frames ≥ (1 : Int)))) rfl (by kernel_rfl) (decide_eq_false c3) (by kernel_rfl)) ?_; clear hr a; intro a hr
      refine ov hr (.bool false) (by kernel_rfl) ?_; clear hr a; intro a hr
      refine op_off ((wg hr rfl rfl rfl (b' := false) (by kernel_rfl)).trans rfl) rfl rfl hr ?_; clear hr a; intro a hr
      refine op_off ((wg hr rfl rfl rfl (b' := false) (by kernel_rfl)).trans rfl) rfl rfl hr ?_; clear hr a; intro a hr
      refine ovs [21, 22] [.bool false, .bool false] hr ⟨rfl, rfl⟩ (by kernel_rfl) ?_; clear hr a; intro a hr
      refine op_off ((wg hr rfl rfl rfl (b' := false) (by kernel_rfl)).trans rfl) rfl rfl hr ?_; clear hr a; intro a hr
      refine op_off ((wg hr rfl rfl rfl (b' := false) (by kernel_rfl)).trans rfl) rfl rfl hr ?_; clear hr a; intro a hr
      refine op_off ((wg hr rfl rfl rfl (b' := false) (by kernel_rfl)).trans rfl) rfl rfl hr ?_; clear hr a; intro a hr
      refine op_off ((wg hr rfl rfl rfl (b' := false) (by kernel_rfl)).trans rfl) rfl rfl hr ?_; clear hr a; intro a hr
      refine ovs [27, 4] [.bool false, .bool false] hr ⟨rfl, rfl⟩ (by kernel_rfl) ?_; clear hr a; intro a hr
      refine wpList_nil ?_
      refine then_normal ?_
      refine wp_ret ?_
      refine end_ret1 (v := .bool false) rfl hr (by kernel_rfl) ?_
      replace h : Fit z (sepL (L)) _ := h.sel 1 [] (by kernel_rfl) (by kernel_rfl)
      replace H := ej1 H; subst H
      exact ⟨rfl, h⟩
  ·
    replace H := ifF c2 H
    refine op_off ((wg hr rfl rfl rfl (b' := (decide (p0.Base ≥ (0 : Int)))) (by kernel_rfl)).trans (by rw [show (decide (p0.Base ≥ (0 : Int))) = false from (decide_eq_false c2)]; rfl)) rfl rfl hr ?_; clear hr a; intro a hr
    refine op_off ((wg hr rfl rfl rfl (b' := (decide (p0.Base ≥ (0 : Int)))) (by kernel_rfl)).trans (by rw [show (decide (p0.Base ≥ (0 : Int))) = false from (decide_eq_false c2)]; rfl)) rfl rfl hr ?_; clear hr a; intro a hr
    refine op_off ((wg hr rfl rfl rfl (b' := (decide (p0.Base ≥ (0 : Int)))) (by kernel_rfl)).trans (by rw [show (decide (p0.Base ≥ (0 : Int))) = false from (decide_eq_false c2)]; rfl)) rfl rfl hr ?_; clear hr a; intro a hr
    refine op_val (wn rfl) rfl rfl hr (v := .bool false) (rp_f (b := (decide (p0.Base ≥ (0 : Int)))) rfl (by kernel_rfl) (decide_eq_false c2) (by kernel_rfl)) ?_; clear hr a; intro a hr
    refine ov hr (.bool false) (by kernel_rfl) ?_; clear hr a; intro a hr
    refine op_off ((wg hr rfl rfl rfl (b' := false) (by kernel_rfl)).trans rfl) rfl rfl hr ?_; clear hr a; intro a hr
    refine op_off ((wg hr rfl rfl rfl (b' := false) (by kernel_rfl)).trans rfl) rfl rfl hr ?_; clear hr a; intro a hr
    refine op_off ((wg hr rfl rfl rfl (b' := false) (by kernel_rfl)).trans rfl) rfl rfl hr ?_; clear hr a; intro a hr
    refine ovs [17, 18] [.bool false, .bool false] hr ⟨rfl, rfl⟩ (by kernel_rfl) ?_; clear hr a; intro a hr
    refine op_off ((wg hr rfl rfl rfl (b' := false) (by kernel_rfl)).trans rfl) rfl rfl hr ?_; clear hr a; intro a hr
    refine op_off ((wg hr rfl rfl rfl (b' := false) (by kernel_rfl)).trans rfl) rfl rfl hr ?_; clear hr a; intro a hr
    refine ovs [21, 22] [.bool false, .bool false] hr ⟨rfl, rfl⟩ (by kernel_rfl) ?_; clear hr a; intro a hr
    refine op_off ((wg hr rfl rfl rfl (b' := false) (by kernel_rfl)).trans rfl) rfl rfl hr ?_; clear hr a; intro a hr
    refine op_off ((wg hr rfl rfl rfl (b' := false) (by kernel_rfl)).trans rfl) rfl rfl hr ?_; clear hr a; intro a hr
    refine op_off ((wg hr rfl rfl rfl (b' := false) (by kernel_rfl)).trans rfl) rfl rfl hr ?_; clear hr a; intro a hr
    refine op_off ((wg hr rfl rfl rfl (b' := false) (by kernel_rfl)).trans rfl) rfl rfl hr ?_; clear hr a; intro a hr
    refine ovs [27, 4] [.bool false, .bool false] hr ⟨rfl, rfl⟩ (by kernel_rfl) ?_; clear hr a; intro a hr
    refine wpList_nil ?_
    refine then_normal ?_
    refine wp_ret ?_
    refine end_ret1 (v := .bool false) rfl hr (by kernel_rfl) ?_
    replace h : Fit z (sepL (L)) _ := h.sel 1 [] (by kernel_rfl) (by kernel_rfl)
    replace H := ej1 H; subst H
    exact ⟨rfl, h⟩

/-- plunder/frames.begin -/
def frames_begin (p0 : Int) (p1 : T_frames_Table) (p2 : Int) (p3 : Int) (p4 : Int) : Option (T_frames_Op) :=
  ob1 (frames_Table__has p1 p2) (fun r3 => (if r3 = true then (if p3 < (0 : Int) then some (⟨0, 0, 0, 0, 0, 0, 0, 0, 0⟩ : T_frames_Op) else (if p3 ≥ (8 : Int) then some (⟨0, 0, 0, 0, 0, 0, 0, 0, 0⟩ : T_frames_Op) else some (⟨p1.Base, p1.Frames, p2, 1, 0, 0, p0, p3, p4⟩ : T_frames_Op))) else some (⟨0, 0, 0, 0, 0, 0, 0, 0, 0⟩ : T_frames_Op)))
set_option maxRecDepth 100000 in
set_option maxHeartbeats 4000000 in
theorem frames_begin_ok {z w : World} {L : List HProp} {p0 : Int} {p1 : T_frames_Table} {p2 : Int} {p3 : Int} {p4 : Int} {r0 : T_frames_Op} (H : frames_begin p0 p1 p2 p3 p4 = some r0) (h : Fit z (sepL (L)) w)  :
    Calls Try.prog 55 #[.int .i64 p0, .agg #[.int .i64 p1.Base, .int .i64 p1.Frames], .int .i64 p2, .int .i64 p3, .int .i64 p4] w fun e w => e = .returned (.agg #[.int .i64 r0.head_t_Base, .int .i64 r0.head_t_Frames, .int .i64 r0.head_frame, .int .i64 r0.head_stands, .int .i64 r0.head_code, .int .i64 r0.head_v, .int .i64 r0.kind, .int .i64 r0.slot, .int .i64 r0.give]) ∧ Fit z (sepL (L)) w := by
  unfold frames_begin at H
  refine enter Try.func55 rfl 31 rfl rfl [(0, .int .i64 p0), (1, .agg #[.int .i64 p1.Base, .int .i64 p1.Frames]), (2, .int .i64 p2), (3, .int .i64 p3), (4, .int .i64 p4)] ⟨rfl, rfl, rfl, rfl, rfl, trivial⟩ ?_
  intro j a hr
  refine wp_seq ?_
  refine wp_region_lit ?_
  refine op_new (wn rfl) rfl rfl hr h (vf := fun b => .pointer (some ⟨b, 0, none⟩)) (cs := #[.int .i64 p1.Base, .int .i64 p1.Frames]) (T := 39) (by kernel_rfl) ?_; clear h hr a; intro b1 w a h hr
  refine op_new (wn rfl) rfl rfl hr h (vf := fun b => .pointer (some ⟨b, 0, none⟩)) (cs := #[.int .i64 0, .int .i64 0, .int .i64 0, .int .i64 0, .int .i64 0, .int .i64 0, .int .i64 0, .int .i64 0, .int .i64 0]) (T := 50) (by kernel_rfl) ?_; clear h hr a; intro b2 w a h hr
  refine wpList_nil ?_
  refine then_normal ?_
  refine wp_seq ?_
  refine wp_seq ?_
  refine wp_region_lit ?_
  refine op_val (wn rfl) rfl rfl hr (v := .agg #[.int .i64 p1.Base, .int .i64 p1.Frames]) (rlm (cs := [.int .i64 p1.Base, .int .i64 p1.Frames]) rfl (by kernel_rfl) (by kernel_rfl) (by kernel_rfl) ⟨(h.pick 1).cell 0 rfl, (h.pick 1).cell 1 rfl, trivial⟩) ?_; clear hr a; intro a hr
  replace H := bd1 H; obtain ⟨r3, e4, H⟩ := H
  refine ov hr (.int .i64 p2) (by kernel_rfl) ?_; clear hr a; intro a hr
  have hc := frames_Table__has_ok (H := e4) (h := h)
  refine op_call (wn rfl) rfl rfl hr (f := 80) (args := #[.agg #[.int .i64 p1.Base, .int .i64 p1.Frames], .int .i64 p2]) (by kernel_rfl) hc ?_; clear hc h
  rintro _ w ⟨rfl, h⟩; refine ⟨_, rfl, ?_⟩
  clear hr a; intro a hr
  refine ovs [14, 15] [.bool (!r3), .bool (!r3)] hr ⟨rfl, rfl⟩ (by kernel_rfl) ?_; clear hr a; intro a hr
  by_cases c5 : r3 = true
  ·
    replace H := ifT c5 H
    refine op_val ((wg hr rfl rfl rfl (b' := (!r3)) (by kernel_rfl)).trans (by rw [show (!r3) = false from (by rw [show r3 = true from (c5)]; rfl)]; rfl)) rfl rfl hr (v := .int .i64 p3) (by kernel_rfl) ?_; clear hr a; intro a hr
    refine op_val ((wg hr rfl rfl rfl (b' := (!r3)) (by kernel_rfl)).trans (by rw [show (!r3) = false from (by rw [show r3 = true from (c5)]; rfl)]; rfl)) rfl rfl hr (v := .bool (decide (p3 < (0 : Int)))) (by kernel_rfl) ?_; clear hr a; intro a hr
    refine op_val (wn rfl) rfl rfl hr (v := .bool (decide (p3 < (0 : Int)))) (rp_f (b := (!r3)) rfl (by kernel_rfl) (by rw [show r3 = true from (c5)]; rfl) (by kernel_rfl)) ?_; clear hr a; intro a hr
    refine ov hr (.bool (decide (p3 < (0 : Int)))) (by kernel_rfl) ?_; clear hr a; intro a hr
    by_cases c6 : p3 < (0 : Int)
    ·
      replace H := ifT c6 H
      refine op_off ((wg hr rfl rfl rfl (b' := (decide (p3 < (0 : Int)))) (by kernel_rfl)).trans (by rw [show (decide (p3 < (0 : Int))) = true from (decide_eq_true c6)]; rfl)) rfl rfl hr ?_; clear hr a; intro a hr
      refine op_off ((wg hr rfl rfl rfl (b' := (decide (p3 < (0 : Int)))) (by kernel_rfl)).trans (by rw [show (decide (p3 < (0 : Int))) = true from (decide_eq_true c6)]; rfl)) rfl rfl hr ?_; clear hr a; intro a hr
      refine op_val (wn rfl) rfl rfl hr (v := .bool true) (rp_t (b := (decide (p3 < (0 : Int)))) rfl (by kernel_rfl) (decide_eq_true c6) (by kernel_rfl)) ?_; clear hr a; intro a hr
      refine wpList_nil ?_
      refine then_normal ?_
      refine cond_tt hr (b := true) rfl ?_
      refine wp_seq ?_
      refine wp_region_lit ?_
      refine ov hr (.agg #[.int .i64 0, .int .i64 0, .int .i64 0, .int .i64 0, .int .i64 0, .int .i64 0, .int .i64 0, .int .i64 0, .int .i64 0]) (by kernel_rfl) ?_; clear hr a; intro a hr
      refine op_stores (wn rfl) rfl hr rfl (by kernel_rfl) (by kernel_rfl) (vs := [.int .i64 0, .int .i64 0, .int .i64 0, .int .i64 0, .int .i64 0, .int .i64 0, .int .i64 0, .int .i64 0, .int .i64 0]) rfl rfl (by kernel_rfl) h (i := 0) (cs' := #[.int .i64 0, .int .i64 0, .int .i64 0, .int .i64 0, .int .i64 0, .int .i64 0, .int .i64 0, .int .i64 0, .int .i64 0]) rfl ?_; clear h; intro w h
      refine wpList_nil ?_
      replace h : Fit z (sepL (pts b2 (.cells #[.int .i64 0, .int .i64 0, .int .i64 0, .int .i64 0, .int .i64 0, .int .i64 0, .int .i64 0, .int .i64 0, .int .i64 0] 50) :: ob39 b1 p1 :: L)) _ := h
      refine then_normal ?_
      refine wp_ret ?_
      refine then_ret ?_
      refine end_retC (cs := [.int .i64 0, .int .i64 0, .int .i64 0, .int .i64 0, .int .i64 0, .int .i64 0, .int .i64 0, .int .i64 0, .int .i64 0]) rfl hr (by kernel_rfl) (by kernel_rfl) (by kernel_rfl) ⟨h.cell 0 rfl, h.cell 1 rfl, h.cell 2 rfl, h.cell 3 rfl, h.cell 4 rfl, h.cell 5 rfl, h.cell 6 rfl, h.cell 7 rfl, h.cell 8 rfl, trivial⟩ ?_
      replace h : Fit z (sepL (L)) _ := h.sel 2 [] (by kernel_rfl) (by kernel_rfl)
      replace H := ej1 H; subst H
      exact ⟨rfl, h⟩
    ·
      replace H := ifF c6 H
      refine op_val ((wg hr rfl rfl rfl (b' := (decide (p3 < (0 : Int)))) (by kernel_rfl)).trans (by rw [show (decide (p3 < (0 : Int))) = false from (decide_eq_false c6)]; rfl)) rfl rfl hr (v := .int .i64 p3) (by kernel_rfl) ?_; clear hr a; intro a hr
      refine op_val ((wg hr rfl rfl rfl (b' := (decide (p3 < (0 : Int)))) (by kernel_rfl)).trans (by rw [show (decide (p3 < (0 : Int))) = false from (decide_eq_false c6)]; rfl)) rfl rfl hr (v := .bool (decide (p3 ≥ (8 : Int)))) (by kernel_rfl) ?_; clear hr a; intro a hr
      refine op_val (wn rfl) rfl rfl hr (v := .bool (decide (p3 ≥ (8 : Int)))) (rp_f (b := (decide (p3 < (0 : Int)))) rfl (by kernel_rfl) (decide_eq_false c6) (by kernel_rfl)) ?_; clear hr a; intro a hr
      refine wpList_nil ?_
      refine then_normal ?_
      by_cases c7 : p3 ≥ (8 : Int)
      ·
        replace H := ifT c7 H
        refine cond_tt hr (b := (decide (p3 ≥ (8 : Int)))) (decide_eq_true c7) ?_
        refine wp_seq ?_
        refine wp_region_lit ?_
        refine ov hr (.agg #[.int .i64 0, .int .i64 0, .int .i64 0, .int .i64 0, .int .i64 0, .int .i64 0, .int .i64 0, .int .i64 0, .int .i64 0]) (by kernel_rfl) ?_; clear hr a; intro a hr
        refine op_stores (wn rfl) rfl hr rfl (by kernel_rfl) (by kernel_rfl) (vs := [.int .i64 0, .int .i64 0, .int .i64 0, .int .i64 0, .int .i64 0, .int .i64 0, .int .i64 0, .int .i64 0, .int .i64 0]) rfl rfl (by kernel_rfl) h (i := 0) (cs' := #[.int .i64 0, .int .i64 0, .int .i64 0, .int .i64 0, .int .i64 0, .int .i64 0, .int .i64 0, .int .i64 0, .int .i64 0]) rfl ?_; clear h; intro w h
        refine wpList_nil ?_
        replace h : Fit z (sepL (pts b2 (.cells #[.int .i64 0, .int .i64 0, .int .i64 0, .int .i64 0, .int .i64 0, .int .i64 0, .int .i64 0, .int .i64 0, .int .i64 0] 50) :: ob39 b1 p1 :: L)) _ := h
        refine then_normal ?_
        refine wp_ret ?_
        refine then_ret ?_
        refine end_retC (cs := [.int .i64 0, .int .i64 0, .int .i64 0, .int .i64 0, .int .i64 0, .int .i64 0, .int .i64 0, .int .i64 0, .int .i64 0]) rfl hr (by kernel_rfl) (by kernel_rfl) (by kernel_rfl) ⟨h.cell 0 rfl, h.cell 1 rfl, h.cell 2 rfl, h.cell 3 rfl, h.cell 4 rfl, h.cell 5 rfl, h.cell 6 rfl, h.cell 7 rfl, h.cell 8 rfl, trivial⟩ ?_
        replace h : Fit z (sepL (L)) _ := h.sel 2 [] (by kernel_rfl) (by kernel_rfl)
        replace H := ej1 H; subst H
        exact ⟨rfl, h⟩
      ·
        replace H := ifF c7 H
        refine cond_ff hr (b := (decide (p3 ≥ (8 : Int)))) (decide_eq_false c7) ?_
        refine wp_skip ?_
        refine then_normal ?_
        refine wp_seq ?_
        refine wp_region_lit ?_
        refine op_val (wn rfl) rfl rfl hr (v := .agg #[.int .i64 p1.Base, .int .i64 p1.Frames]) (rlm (cs := [.int .i64 p1.Base, .int .i64 p1.Frames]) rfl (by kernel_rfl) (by kernel_rfl) (by kernel_rfl) ⟨(h.pick 1).cell 0 rfl, (h.pick 1).cell 1 rfl, trivial⟩) ?_; clear hr a; intro a hr
        refine ovs [25, 26, 27, 28, 29, 30] [.int .i64 p2, .agg #[.int .i64 p1.Base, .int .i64 p1.Frames, .int .i64 p2, .int .i64 1, .int .i64 0, .int .i64 0], .int .i64 p0, .int .i64 p3, .int .i64 p4, .agg #[.int .i64 p1.Base, .int .i64 p1.Frames, .int .i64 p2, .int .i64 1, .int .i64 0, .int .i64 0, .int .i64 p0, .int .i64 p3, .int .i64 p4]] hr ⟨rfl, rfl⟩ (by kernel_rfl) ?_; clear hr a; intro a hr
        refine op_stores (wn rfl) rfl hr rfl (by kernel_rfl) (by kernel_rfl) (vs := [.int .i64 p1.Base, .int .i64 p1.Frames, .int .i64 p2, .int .i64 1, .int .i64 0, .int .i64 0, .int .i64 p0, .int .i64 p3, .int .i64 p4]) rfl rfl (by kernel_rfl) h (i := 0) (cs' := #[.int .i64 p1.Base, .int .i64 p1.Frames, .int .i64 p2, .int .i64 1, .int .i64 0, .int .i64 0, .int .i64 p0, .int .i64 p3, .int .i64 p4]) rfl ?_; clear h; intro w h
        refine wpList_nil ?_
        replace h : Fit z (sepL (pts b2 (.cells #[.int .i64 p1.Base, .int .i64 p1.Frames, .int .i64 p2, .int .i64 1, .int .i64 0, .int .i64 0, .int .i64 p0, .int .i64 p3, .int .i64 p4] 50) :: ob39 b1 p1 :: L)) _ := h
        refine then_normal ?_
        refine wp_ret ?_
        refine end_retC (cs := [.int .i64 p1.Base, .int .i64 p1.Frames, .int .i64 p2, .int .i64 1, .int .i64 0, .int .i64 0, .int .i64 p0, .int .i64 p3, .int .i64 p4]) rfl hr (by kernel_rfl) (by kernel_rfl) (by kernel_rfl) ⟨h.cell 0 rfl, h.cell 1 rfl, h.cell 2 rfl, h.cell 3 rfl, h.cell 4 rfl, h.cell 5 rfl, h.cell 6 rfl, h.cell 7 rfl, h.cell 8 rfl, trivial⟩ ?_
        replace h : Fit z (sepL (L)) _ := h.sel 2 [] (by kernel_rfl) (by kernel_rfl)
        replace H := ej1 H; subst H
        exact ⟨rfl, h⟩
  ·
    replace H := ifF c5 H
    refine op_off ((wg hr rfl rfl rfl (b' := (!r3)) (by kernel_rfl)).trans (by rw [show (!r3) = true from (by rw [show r3 = false from (bF c5)]; rfl)]; rfl)) rfl rfl hr ?_; clear hr a; intro a hr
    refine op_off ((wg hr rfl rfl rfl (b' := (!r3)) (by kernel_rfl)).trans (by rw [show (!r3) = true from (by rw [show r3 = false from (bF c5)]; rfl)]; rfl)) rfl rfl hr ?_; clear hr a; intro a hr
    refine op_val (wn rfl) rfl rfl hr (v := .bool true) (rp_t (b := (!r3)) rfl (by kernel_rfl) (by rw [show r3 = false from (bF c5)]; rfl) (by kernel_rfl)) ?_; clear hr a; intro a hr
    refine ov hr (.bool true) (by kernel_rfl) ?_; clear hr a; intro a hr
    refine op_off ((wg hr rfl rfl rfl (b' := true) (by kernel_rfl)).trans rfl) rfl rfl hr ?_; clear hr a; intro a hr
    refine op_off ((wg hr rfl rfl rfl (b' := true) (by kernel_rfl)).trans rfl) rfl rfl hr ?_; clear hr a; intro a hr
    refine ov hr (.bool true) (by kernel_rfl) ?_; clear hr a; intro a hr
    refine wpList_nil ?_
    refine then_normal ?_
    refine cond_tt hr (b := true) rfl ?_
    refine wp_seq ?_
    refine wp_region_lit ?_
    refine ov hr (.agg #[.int .i64 0, .int .i64 0, .int .i64 0, .int .i64 0, .int .i64 0, .int .i64 0, .int .i64 0, .int .i64 0, .int .i64 0]) (by kernel_rfl) ?_; clear hr a; intro a hr
    refine op_stores (wn rfl) rfl hr rfl (by kernel_rfl) (by kernel_rfl) (vs := [.int .i64 0, .int .i64 0, .int .i64 0, .int .i64 0, .int .i64 0, .int .i64 0, .int .i64 0, .int .i64 0, .int .i64 0]) rfl rfl (by kernel_rfl) h (i := 0) (cs' := #[.int .i64 0, .int .i64 0, .int .i64 0, .int .i64 0, .int .i64 0, .int .i64 0, .int .i64 0, .int .i64 0, .int .i64 0]) rfl ?_; clear h; intro w h
    refine wpList_nil ?_
    replace h : Fit z (sepL (pts b2 (.cells #[.int .i64 0, .int .i64 0, .int .i64 0, .int .i64 0, .int .i64 0, .int .i64 0, .int .i64 0, .int .i64 0, .int .i64 0] 50) :: ob39 b1 p1 :: L)) _ := h
    refine then_normal ?_
    refine wp_ret ?_
    refine then_ret ?_
    refine end_retC (cs := [.int .i64 0, .int .i64 0, .int .i64 0, .int .i64 0, .int .i64 0, .int .i64 0, .int .i64 0, .int .i64 0, .int .i64 0]) rfl hr (by kernel_rfl) (by kernel_rfl) (by kernel_rfl) ⟨h.cell 0 rfl, h.cell 1 rfl, h.cell 2 rfl, h.cell 3 rfl, h.cell 4 rfl, h.cell 5 rfl, h.cell 6 rfl, h.cell 7 rfl, h.cell 8 rfl, trivial⟩ ?_
    replace h : Fit z (sepL (L)) _ := h.sel 2 [] (by kernel_rfl) (by kernel_rfl)
    replace H := ej1 H; subst H
    exact ⟨rfl, h⟩

/-- plunder/frames.Fork -/
def frames_Fork (p0 : T_frames_Table) (p1 : Int) : Option (T_frames_Op) :=
  ob1 (frames_begin 1 p0 p1 0 0) (fun r3 => some r3)
set_option maxRecDepth 100000 in
set_option maxHeartbeats 4000000 in
theorem frames_Fork_ok {z w : World} {L : List HProp} {p0 : T_frames_Table} {p1 : Int} {r0 : T_frames_Op} (H : frames_Fork p0 p1 = some r0) (h : Fit z (sepL (L)) w)  :
    Calls Try.prog 30 #[.agg #[.int .i64 p0.Base, .int .i64 p0.Frames], .int .i64 p1] w fun e w => e = .returned (.agg #[.int .i64 r0.head_t_Base, .int .i64 r0.head_t_Frames, .int .i64 r0.head_frame, .int .i64 r0.head_stands, .int .i64 r0.head_code, .int .i64 r0.head_v, .int .i64 r0.kind, .int .i64 r0.slot, .int .i64 r0.give]) ∧ Fit z (sepL (L)) w := by
  unfold frames_Fork at H
  refine enter Try.func30 rfl 8 rfl rfl [(0, .agg #[.int .i64 p0.Base, .int .i64 p0.Frames]), (1, .int .i64 p1)] ⟨rfl, rfl, trivial⟩ ?_
  intro j a hr
  refine wp_seq ?_
  refine wp_region_lit ?_
  refine op_new (wn rfl) rfl rfl hr h (vf := fun b => .pointer (some ⟨b, 0, none⟩)) (cs := #[.int .i64 p0.Base, .int .i64 p0.Frames]) (T := 39) (by kernel_rfl) ?_; clear h hr a; intro b1 w a h hr
  refine op_new (wn rfl) rfl rfl hr h (vf := fun b => .pointer (some ⟨b, 0, none⟩)) (cs := #[.int .i64 0, .int .i64 0, .int .i64 0, .int .i64 0, .int .i64 0, .int .i64 0, .int .i64 0, .int .i64 0, .int .i64 0]) (T := 50) (by kernel_rfl) ?_; clear h hr a; intro b2 w a h hr
  refine wpList_nil ?_
  refine then_normal ?_
  refine wp_seq ?_
  refine wp_region_lit ?_
  refine op_val (wn rfl) rfl rfl hr (v := .agg #[.int .i64 p0.Base, .int .i64 p0.Frames]) (rlm (cs := [.int .i64 p0.Base, .int .i64 p0.Frames]) rfl (by kernel_rfl) (by kernel_rfl) (by kernel_rfl) ⟨(h.pick 1).cell 0 rfl, (h.pick 1).cell 1 rfl, trivial⟩) ?_; clear hr a; intro a hr
  replace H := bd1 H; obtain ⟨r3, e4, H⟩ := H
  refine ov hr (.int .i64 p1) (by kernel_rfl) ?_; clear hr a; intro a hr
  have hc := frames_begin_ok (H := e4) (h := h)
  refine op_call (wn rfl) rfl rfl hr (f := 55) (args := #[.int .i64 1, .agg #[.int .i64 p0.Base, .int .i64 p0.Frames], .int .i64 p1, .int .i64 0, .int .i64 0]) (by kernel_rfl) hc ?_; clear hc h
  rintro _ w ⟨rfl, h⟩; refine ⟨_, rfl, ?_⟩
  clear hr a; intro a hr
  refine op_stores (wn rfl) rfl hr rfl (by kernel_rfl) (by kernel_rfl) (vs := [.int .i64 r3.head_t_Base, .int .i64 r3.head_t_Frames, .int .i64 r3.head_frame, .int .i64 r3.head_stands, .int .i64 r3.head_code, .int .i64 r3.head_v, .int .i64 r3.kind, .int .i64 r3.slot, .int .i64 r3.give]) rfl rfl (by kernel_rfl) h (i := 0) (cs' := #[.int .i64 r3.head_t_Base, .int .i64 r3.head_t_Frames, .int .i64 r3.head_frame, .int .i64 r3.head_stands, .int .i64 r3.head_code, .int .i64 r3.head_v, .int .i64 r3.kind, .int .i64 r3.slot, .int .i64 r3.give]) rfl ?_; clear h; intro w h
  refine wpList_nil ?_
  replace h : Fit z (sepL (ob50 b2 r3 :: ob39 b1 p0 :: L)) _ := h
  refine then_normal ?_
  refine wp_ret ?_
  refine end_retC (cs := [.int .i64 r3.head_t_Base, .int .i64 r3.head_t_Frames, .int .i64 r3.head_frame, .int .i64 r3.head_stands, .int .i64 r3.head_code, .int .i64 r3.head_v, .int .i64 r3.kind, .int .i64 r3.slot, .int .i64 r3.give]) rfl hr (by kernel_rfl) (by kernel_rfl) (by kernel_rfl) ⟨h.cell 0 rfl, h.cell 1 rfl, h.cell 2 rfl, h.cell 3 rfl, h.cell 4 rfl, h.cell 5 rfl, h.cell 6 rfl, h.cell 7 rfl, h.cell 8 rfl, trivial⟩ ?_
  replace h : Fit z (sepL (L)) _ := h.sel 2 [] (by kernel_rfl) (by kernel_rfl)
  replace H := ej1 H; subst H
  exact ⟨rfl, h⟩

/-- (plunder/frames.Table).next -/
def frames_Table__next (p0 : T_frames_Table) : Option (Int) :=
  some p0.Base
set_option maxRecDepth 100000 in
set_option maxHeartbeats 4000000 in
theorem frames_Table__next_ok {z w : World} {L : List HProp} {p0 : T_frames_Table} {r0 : Int} (H : frames_Table__next p0 = some r0) (h : Fit z (sepL (L)) w)  :
    Calls Try.prog 98 #[.agg #[.int .i64 p0.Base, .int .i64 p0.Frames]] w fun e w => e = .returned (.int .i64 r0) ∧ Fit z (sepL (L)) w := by
  unfold frames_Table__next at H
  refine enter Try.func98 rfl 5 rfl rfl [(0, .agg #[.int .i64 p0.Base, .int .i64 p0.Frames])] ⟨rfl, trivial⟩ ?_
  intro j a hr
  refine wp_seq ?_
  refine wp_region_lit ?_
  refine op_new (wn rfl) rfl rfl hr h (vf := fun b => .pointer (some ⟨b, 0, none⟩)) (cs := #[.int .i64 p0.Base, .int .i64 p0.Frames]) (T := 39) (by kernel_rfl) ?_; clear h hr a; intro b1 w a h hr
  refine ov hr (.int .i64 0) (by kernel_rfl) ?_; clear hr a; intro a hr
  refine wpList_nil ?_
  refine then_normal ?_
  refine wp_seq ?_
  refine wp_region_lit ?_
  refine ov hr (.pointer (some ⟨b1, 0, none⟩)) (by kernel_rfl) ?_; clear hr a; intro a hr
  refine op_val (wn rfl) rfl rfl hr (v := .int .i64 p0.Base) (rl rfl (by kernel_rfl) (by kernel_rfl) (h.cell 0 rfl)) ?_; clear hr a; intro a hr
  refine ov hr (.int .i64 p0.Base) (by kernel_rfl) ?_; clear hr a; intro a hr
  refine wpList_nil ?_
  refine then_normal ?_
  refine wp_ret ?_
  refine end_ret1 (v := .int .i64 p0.Base) rfl hr (by kernel_rfl) ?_
  replace h : Fit z (sepL (L)) _ := h.sel 1 [] (by kernel_rfl) (by kernel_rfl)
  replace H := ej1 H; subst H
  exact ⟨rfl, h⟩

/-- (*plunder/cells.Arena).Add -/
def cells_Arena_Add (p0 : T_cells_Arena) (p1 : Int) (p2 : Int) : Option (Int × Int × T_cells_Arena) :=
  ob1 (cells_Arena_outside p0 p1) (fun r5 => (if r5 = true then some (0, 20, p0) else if inr_ p1 p0.cell.length then if inr_ p1 (p0.cell.set p1.toNat (wi ((at_ p0.cell p1.toNat) + p2))).length then ob1 (cells_Arena_note ({ p0 with cell := p0.cell.set p1.toNat (wi ((at_ p0.cell p1.toNat) + p2)) }) 3 p1 p2 (wi ((at_ p0.cell p1.toNat) + p2)) true) (fun S11 => if inr_ p1 S11.cell.length then some ((at_ S11.cell p1.toNat), 0, S11) else none) else none else none))
set_option maxRecDepth 100000 in
set_option maxHeartbeats 4000000 in
theorem cells_Arena_Add_ok {z w : World} {L : List HProp} {p0 : T_cells_Arena} {p1 : Int} {p2 : Int} {B0 : Nat} {ca1 : Option Addr} {cc2 : Nat} {ca3 : Option Addr} {cc4 : Nat} {r0 : Int} {r1 : Int} {q0 : T_cells_Arena} (H : cells_Arena_Add p0 p1 p2 = some (r0, r1, q0)) (h : Fit z (sepL (ob103 B0 p0 ca1 cc2 ca3 cc4 :: ro2 ca1 cc2 p0.cell :: ro96 ca3 cc4 p0.log :: L)) w)  :
    Calls Try.prog 122 #[.pointer (some ⟨B0, 0, none⟩), .int .i64 p1, .int .i64 p2] w fun e w => ∃ caq0_1 : Option Addr, ∃ ccq0_2 : Nat, ∃ caq0_3 : Option Addr, ∃ ccq0_4 : Nat, e = .returned (.tuple #[.int .i64 r0, .int .i64 r1]) ∧ Fit z (sepL (ob103 B0 q0 caq0_1 ccq0_2 caq0_3 ccq0_4 :: ro2 caq0_1 ccq0_2 q0.cell :: ro96 caq0_3 ccq0_4 q0.log :: L)) w := by
  unfold cells_Arena_Add at H
  refine enter Try.func122 rfl 39 rfl rfl [(0, .pointer (some ⟨B0, 0, none⟩)), (1, .int .i64 p1), (2, .int .i64 p2)] ⟨rfl, rfl, rfl, trivial⟩ ?_
  intro j a hr
  refine wp_seq ?_
  refine wp_region_lit ?_
  refine ovs [6, 7] [.int .i64 0, .int .i64 0] hr ⟨rfl, rfl⟩ (by kernel_rfl) ?_; clear hr a; intro a hr
  refine wpList_nil ?_
  refine then_normal ?_
  refine wp_seq ?_
  refine wp_seq ?_
  refine wp_region_lit ?_
  replace H := bd1 H; obtain ⟨r5, e6, H⟩ := H
  refine ovs [8, 9] [.pointer (some ⟨B0, 0, none⟩), .int .i64 p1] hr ⟨rfl, rfl⟩ (by kernel_rfl) ?_; clear hr a; intro a hr
  have hc := cells_Arena_outside_ok (H := e6) (h := h)
  refine op_call (wn rfl) rfl rfl hr (f := 126) (args := #[.pointer (some ⟨B0, 0, none⟩), .int .i64 p1]) (by kernel_rfl) hc ?_; clear hc h
  rintro _ w ⟨rfl, h⟩; refine ⟨_, rfl, ?_⟩
  clear hr a; intro a hr
  refine wpList_nil ?_
  refine then_normal ?_
  by_cases c7 : r5 = true
  ·
    replace H := ifT c7 H
    refine cond_tt hr (b := r5) (c7) ?_
    refine wp_seq ?_
    refine wp_region_lit ?_
    refine ovs [6, 7] [.int .i64 0, .int .i64 20] hr ⟨rfl, rfl⟩ (by kernel_rfl) ?_; clear hr a; intro a hr
    refine wpList_nil ?_
    refine then_normal ?_
    refine wp_ret ?_
    refine then_ret ?_
    refine end_ret2 (v := .int .i64 0) (v' := .int .i64 20) rfl hr (by kernel_rfl) (by kernel_rfl) ?_
    replace H := ej3 H; obtain ⟨rfl, rfl, rfl⟩ := H
    exact ⟨ca1, cc2, ca3, cc4, rfl, h⟩
  ·
    replace H := ifF c7 H
    refine cond_ff hr (b := r5) (bF c7) ?_
    refine wp_skip ?_
    refine then_normal ?_
    refine wp_seq ?_
    refine wp_region_lit ?_
    refine ovs [11, 12, 13] [.pointer (some ⟨B0, 0, none⟩), .pointer (some ⟨B0, 0, none⟩), .pointer (some ⟨B0, 2, none⟩)] hr ⟨rfl, rfl⟩ (by kernel_rfl) ?_; clear hr a; intro a hr
    refine op_val (wn rfl) rfl rfl hr (v := .slice ca1 p0.cell.length cc2) (rl rfl (by kernel_rfl) (by kernel_rfl) (h.cell 2 rfl)) ?_; clear hr a; intro a hr
    replace H := gd H; obtain ⟨c8, H⟩ := H
    refine ov hr (.int .i64 p1) (by kernel_rfl) ?_; clear hr a; intro a hr
    refine op_val (wn rfl) rfl rfl hr (v := .pointer (some ⟨blk ca1, p1.toNat * 1, none⟩)) (ri_row (k := .i64) (E := 2) rfl (by kernel_rfl) (by kernel_rfl) (by kernel_rfl) (by kernel_rfl) (h.pick 1) c8) ?_; clear hr a; intro a hr
    refine op_val (wn rfl) rfl rfl hr (v := .int .i64 (at_ p0.cell p1.toNat)) (rl rfl (by kernel_rfl) (by kernel_rfl) ((h.pick 1).row_cell encZ_i64_ok (f := 0) (at_ok c8) rfl)) ?_; clear hr a; intro a hr
    refine ovs [18, 19] [.int .i64 p2, .int .i64 (wi ((at_ p0.cell p1.toNat) + p2))] hr ⟨rfl, rfl⟩ (by kernel_rfl) ?_; clear hr a; intro a hr
    refine op_val (wn rfl) rfl rfl hr (v := .pointer (some ⟨blk ca1, p1.toNat * 1, none⟩)) (ri_row (k := .i64) (E := 2) rfl (by kernel_rfl) (by kernel_rfl) (by kernel_rfl) (by kernel_rfl) (h.pick 1) c8) ?_; clear hr a; intro a hr
    replace h : Fit z (sepL (ro2 ca1 cc2 p0.cell :: ob103 B0 p0 ca1 cc2 ca3 cc4 :: ro96 ca3 cc4 p0.log :: L)) _ := h.sel 3 [1, 0, 2] (by kernel_rfl) (by kernel_rfl)
    refine op_store_row (wn rfl) rfl hr rfl (by kernel_rfl) (by kernel_rfl) (v := .int .i64 (wi ((at_ p0.cell p1.toNat) + p2))) rfl rfl (by kernel_rfl) encZ_i64_ok h (i := p1.toNat) (f := 0) (p := (at_ p0.cell p1.toNat)) (q := (wi ((at_ p0.cell p1.toNat) + p2))) (at_ok c8) (by decide) rfl ?_; clear h; intro w h
    replace h : Fit z (sepL (rowOf 2 1 encZ_i64 (.slice ca1 p0.cell.length cc2) (p0.cell.set p1.toNat (wi ((at_ p0.cell p1.toNat) + p2))) :: ob103 B0 p0 ca1 cc2 ca3 cc4 :: ro96 ca3 cc4 p0.log :: L)) _ := h
    refine wpList_nil ?_
    refine then_normal ?_
    refine wp_seq ?_
    refine wp_region_lit ?_
    refine ovs [21, 22, 23, 24, 25, 26] [.pointer (some ⟨B0, 0, none⟩), .int .i64 p1, .int .i64 p2, .pointer (some ⟨B0, 0, none⟩), .pointer (some ⟨B0, 0, none⟩), .pointer (some ⟨B0, 2, none⟩)] hr ⟨rfl, rfl⟩ (by kernel_rfl) ?_; clear hr a; intro a hr
    refine op_val (wn rfl) rfl rfl hr (v := .slice ca1 p0.cell.length cc2) (rl rfl (by kernel_rfl) (by kernel_rfl) ((h.pick 1).cell 2 rfl)) ?_; clear hr a; intro a hr
    replace H := gd H; obtain ⟨c9, H⟩ := H
    refine ov hr (.int .i64 p1) (by kernel_rfl) ?_; clear hr a; intro a hr
    refine op_val (wn rfl) rfl rfl hr (v := .pointer (some ⟨blk ca1, p1.toNat * 1, none⟩)) (ri_row (k := .i64) (E := 2) rfl (by kernel_rfl) (by kernel_rfl) (by kernel_rfl) (by kernel_rfl) h c9) ?_; clear hr a; intro a hr
    refine op_val (wn rfl) rfl rfl hr (v := .int .i64 (wi ((at_ p0.cell p1.toNat) + p2))) (rl rfl (by kernel_rfl) (by kernel_rfl) (h.row_cell encZ_i64_ok (f := 0) (get_set ((at_okL (by simpa [inr_] using c9)))) rfl)) ?_; clear hr a; intro a hr
    have hn9 := h.row_n
    replace h : Fit z (sepL (ro2 ca1 cc2 (p0.cell.set p1.toNat (wi ((at_ p0.cell p1.toNat) + p2))) :: pts B0 (.cells #[.int .i64 p0.ledger_size, .int .i64 p0.ledger_mark, .slice ca1 ((p0.cell.set p1.toNat (wi ((at_ p0.cell p1.toNat) + p2))).length) cc2, .slice ca3 p0.log.length cc4, .int .i64 p0.actor, .bool p0.watched] 103) :: ro96 ca3 cc4 p0.log :: L)) w := (congrArg (fun q_ : Nat => Fit z (sepL (rowOf 2 1 encZ_i64 (.slice ca1 q_ cc2) (p0.cell.set p1.toNat (wi ((at_ p0.cell p1.toNat) + p2))) :: pts B0 (.cells #[.int .i64 p0.ledger_size, .int .i64 p0.ledger_mark, .slice ca1 q_ cc2, .slice ca3 p0.log.length cc4, .int .i64 p0.actor, .bool p0.watched] 103) :: ro96 ca3 cc4 p0.log :: L)) w) h.row_n).mp h
    replace H := bd1 H; obtain ⟨S11, e12, H⟩ := H
    replace h : Fit z (sepL (pts B0 (.cells #[.int .i64 p0.ledger_size, .int .i64 p0.ledger_mark, .slice ca1 ((p0.cell.set p1.toNat (wi ((at_ p0.cell p1.toNat) + p2))).length) cc2, .slice ca3 p0.log.length cc4, .int .i64 p0.actor, .bool p0.watched] 103) :: ro2 ca1 cc2 (p0.cell.set p1.toNat (wi ((at_ p0.cell p1.toNat) + p2))) :: ro96 ca3 cc4 p0.log :: L)) _ := h.sel 3 [1, 0, 2] (by kernel_rfl) (by kernel_rfl)
    have hc := cells_Arena_note_ok (H := e12) (h := h)
    refine op_call (wn rfl) rfl rfl hr (f := 63) (args := #[.pointer (some ⟨B0, 0, none⟩), .int .i64 3, .int .i64 p1, .int .i64 p2, .int .i64 (wi ((at_ p0.cell p1.toNat) + p2)), .bool true]) (by kernel_rfl) hc ?_; clear hc h
    rintro _ w ⟨caq13, ccq14, caq15, ccq16, rfl, h⟩; refine ⟨_, rfl, ?_⟩
    clear hr a; intro a hr
    refine wpList_nil ?_
    refine then_normal ?_
    refine wp_seq ?_
    refine wp_region_lit ?_
    refine ovs [32, 33, 34] [.pointer (some ⟨B0, 0, none⟩), .pointer (some ⟨B0, 0, none⟩), .pointer (some ⟨B0, 2, none⟩)] hr ⟨rfl, rfl⟩ (by kernel_rfl) ?_; clear hr a; intro a hr
    refine op_val (wn rfl) rfl rfl hr (v := .slice caq13 S11.cell.length ccq14) (rl rfl (by kernel_rfl) (by kernel_rfl) (h.cell 2 rfl)) ?_; clear hr a; intro a hr
    replace H := gd H; obtain ⟨c17, H⟩ := H
    refine ov hr (.int .i64 p1) (by kernel_rfl) ?_; clear hr a; intro a hr
    refine op_val (wn rfl) rfl rfl hr (v := .pointer (some ⟨blk caq13, p1.toNat * 1, none⟩)) (ri_row (k := .i64) (E := 2) rfl (by kernel_rfl) (by kernel_rfl) (by kernel_rfl) (by kernel_rfl) (h.pick 1) c17) ?_; clear hr a; intro a hr
    refine op_val (wn rfl) rfl rfl hr (v := .int .i64 (at_ S11.cell p1.toNat)) (rl rfl (by kernel_rfl) (by kernel_rfl) ((h.pick 1).row_cell encZ_i64_ok (f := 0) (at_ok c17) rfl)) ?_; clear hr a; intro a hr
    refine ovs [6, 7] [.int .i64 (at_ S11.cell p1.toNat), .int .i64 0] hr ⟨rfl, rfl⟩ (by kernel_rfl) ?_; clear hr a; intro a hr
    refine wpList_nil ?_
    refine then_normal ?_
    refine wp_ret ?_
    refine end_ret2 (v := .int .i64 (at_ S11.cell p1.toNat)) (v' := .int .i64 0) rfl hr (by kernel_rfl) (by kernel_rfl) ?_
    replace H := ej3 H; obtain ⟨rfl, rfl, rfl⟩ := H
    exact ⟨caq13, ccq14, caq15, ccq16, rfl, h⟩

/-- (*plunder/frames.head).end -/
def frames_head_end (p0 : T_frames_Op) (p1 : Int) (p2 : Int) : Option (T_frames_Op) :=
  some ({ p0 with head_stands := 0, head_code := p1, head_v := p2 })
set_option maxRecDepth 100000 in
set_option maxHeartbeats 4000000 in
theorem frames_head_end_ok {z w : World} {L : List HProp} {p0 : T_frames_Op} {p1 : Int} {p2 : Int} {B0 : Nat} {q0 : T_frames_Op} (H : frames_head_end p0 p1 p2 = some q0) (h : Fit z (sepL (ob50 B0 p0 :: L)) w)  :
    Calls Try.prog 56 #[.pointer (some ⟨B0, 0, none⟩), .int .i64 p1, .int .i64 p2] w fun e w => e = .returned (.tuple #[]) ∧ Fit z (sepL (ob50 B0 q0 :: L)) w := by
  unfold frames_head_end at H
  refine enter Try.func56 rfl 17 rfl rfl [(0, .pointer (some ⟨B0, 0, none⟩)), (1, .int .i64 p1), (2, .int .i64 p2)] ⟨rfl, rfl, rfl, trivial⟩ ?_
  intro j a hr
  refine wp_seq ?_
  refine wp_region_lit ?_
  refine ovs [6, 7, 8] [.pointer (some ⟨B0, 0, none⟩), .pointer (some ⟨B0, 0, none⟩), .pointer (some ⟨B0, 3, none⟩)] hr ⟨rfl, rfl⟩ (by kernel_rfl) ?_; clear hr a; intro a hr
  refine op_store (wn rfl) rfl hr rfl (by kernel_rfl) (by kernel_rfl) (v := .int .i64 0) rfl rfl (by kernel_rfl) h (i := 3) rfl ?_; clear h; intro w h
  refine wpList_nil ?_
  replace h : Fit z (sepL (pts B0 (.cells #[.int .i64 p0.head_t_Base, .int .i64 p0.head_t_Frames, .int .i64 p0.head_frame, .int .i64 0, .int .i64 p0.head_code, .int .i64 p0.head_v, .int .i64 p0.kind, .int .i64 p0.slot, .int .i64 p0.give] 50) :: L)) _ := h
  refine then_normal ?_
  refine wp_seq ?_
  refine wp_region_lit ?_
  refine ovs [9, 10, 11, 12] [.pointer (some ⟨B0, 0, none⟩), .int .i64 p1, .pointer (some ⟨B0, 0, none⟩), .pointer (some ⟨B0, 4, none⟩)] hr ⟨rfl, rfl⟩ (by kernel_rfl) ?_; clear hr a; intro a hr
  refine op_store (wn rfl) rfl hr rfl (by kernel_rfl) (by kernel_rfl) (v := .int .i64 p1) rfl rfl (by kernel_rfl) h (i := 4) rfl ?_; clear h; intro w h
  refine wpList_nil ?_
  replace h : Fit z (sepL (pts B0 (.cells #[.int .i64 p0.head_t_Base, .int .i64 p0.head_t_Frames, .int .i64 p0.head_frame, .int .i64 0, .int .i64 p1, .int .i64 p0.head_v, .int .i64 p0.kind, .int .i64 p0.slot, .int .i64 p0.give] 50) :: L)) _ := h
  refine then_normal ?_
  refine wp_region_lit ?_
  refine ovs [13, 14, 15, 16] [.pointer (some ⟨B0, 0, none⟩), .int .i64 p2, .pointer (some ⟨B0, 0, none⟩), .pointer (some ⟨B0, 5, none⟩)] hr ⟨rfl, rfl⟩ (by kernel_rfl) ?_; clear hr a; intro a hr
  refine op_store (wn rfl) rfl hr rfl (by kernel_rfl) (by kernel_rfl) (v := .int .i64 p2) rfl rfl (by kernel_rfl) h (i := 5) rfl ?_; clear h; intro w h
  refine wpList_nil ?_
  replace h : Fit z (sepL (pts B0 (.cells #[.int .i64 p0.head_t_Base, .int .i64 p0.head_t_Frames, .int .i64 p0.head_frame, .int .i64 0, .int .i64 p1, .int .i64 p2, .int .i64 p0.kind, .int .i64 p0.slot, .int .i64 p0.give] 50) :: L)) _ := h
  refine end_norm0 rfl hr ?_
  replace H := ej1 H; subst H
  exact ⟨rfl, h⟩

/-- (*plunder/frames.Op).alloc -/
def frames_Op_alloc_iface (p0 : T_frames_Op) (p1 : T_cells_Arena) : Option (Int × T_frames_Op × T_cells_Arena) :=
  ob1 (frames_Table__next (⟨p0.head_t_Base, p0.head_t_Frames⟩ : T_frames_Table)) (fun r5 => ob3 (cells_Arena_Add p1 r5 1) (fun r7 r8 S9 => (if r8 = (0 : Int) then ob1 ((if r7 ≥ (1 : Int) then some (decide (r7 ≤ p0.head_t_Frames)) else some false)) (fun g16 => (if g16 = true then ob1 (frames_head_end p0 4 (wi (r7 - (1 : Int)))) (fun S21 => some (0, S21, S9)) else ob1 (frames_head_end p0 3 0) (fun S23 => some (0, S23, S9)))) else some (r8, p0, S9))))
set_option maxRecDepth 100000 in
set_option maxHeartbeats 4000000 in
theorem frames_Op_alloc_iface_ok {z w : World} {L : List HProp} {p0 : T_frames_Op} {p1 : T_cells_Arena} {B0 : Nat} {B1 : Nat} {ca1 : Option Addr} {cc2 : Nat} {ca3 : Option Addr} {cc4 : Nat} {r0 : Int} {q0 : T_frames_Op} {q1 : T_cells_Arena} (H : frames_Op_alloc_iface p0 p1 = some (r0, q0, q1)) (h : Fit z (sepL (ob50 B0 p0 :: ob103 B1 p1 ca1 cc2 ca3 cc4 :: ro2 ca1 cc2 p1.cell :: ro96 ca3 cc4 p1.log :: L)) w)  :
    Calls Try.prog 81 #[.pointer (some ⟨B0, 0, none⟩), .iface 26 (.pointer (some ⟨B1, 0, none⟩))] w fun e w => ∃ caq1_1 : Option Addr, ∃ ccq1_2 : Nat, ∃ caq1_3 : Option Addr, ∃ ccq1_4 : Nat, e = .returned (.int .i64 r0) ∧ Fit z (sepL (ob50 B0 q0 :: ob103 B1 q1 caq1_1 ccq1_2 caq1_3 ccq1_4 :: ro2 caq1_1 ccq1_2 q1.cell :: ro96 caq1_3 ccq1_4 q1.log :: L)) w := by
  unfold frames_Op_alloc_iface at H
  refine enter Try.func81 rfl 46 rfl rfl [(0, .pointer (some ⟨B0, 0, none⟩)), (1, .iface 26 (.pointer (some ⟨B1, 0, none⟩)))] ⟨rfl, rfl, trivial⟩ ?_
  intro j a hr
  refine wp_seq ?_
  refine wp_region_lit ?_
  refine ov hr (.int .i64 0) (by kernel_rfl) ?_; clear hr a; intro a hr
  refine wpList_nil ?_
  refine then_normal ?_
  refine wp_seq ?_
  replace H := bd1 H; obtain ⟨r5, e6, H⟩ := H
  replace H := bd3 H; obtain ⟨r7, r8, S9, e10, H⟩ := H
  refine reg_E (fun w => heldC w B0 0 [.int .i64 p0.head_t_Base, .int .i64 p0.head_t_Frames] ∧ True) [2, 3, 4, 6, 7, 8] h (by kernel_rfl) ?_; intro w h
  change wpAnyE _ _ _ _ _ _ 16 (Array.replicate 16 false) a w
  have hgo : ∀ w w', CellsGo w w' → (heldC w B0 0 [.int .i64 p0.head_t_Base, .int .i64 p0.head_t_Frames] ∧ True) → heldC w' B0 0 [.int .i64 p0.head_t_Base, .int .i64 p0.head_t_Frames] ∧ True := fun w w' g hD => ⟨heldC_go _ _ _ _ _ g hD.1, trivial⟩
  refine ev 15 0 rfl (by kernel_rfl) (wn rfl) hr (.iface 26 (.pointer (some ⟨B1, 0, none⟩))) (fun w => by kernel_rfl) ?_; clear hr a; intro a hr
  refine ev 14 1 rfl (by kernel_rfl) (wn rfl) hr (.pointer (some ⟨B0, 0, none⟩)) (fun w => by kernel_rfl) ?_; clear hr a; intro a hr
  refine evD hgo ⟨⟨h.cell 0 rfl, h.cell 1 rfl, trivial⟩, trivial⟩ 13 2 rfl (by kernel_rfl) (wn rfl) hr (.pointer (some ⟨B0, 0, none⟩)) (fun w => by kernel_rfl) ?_; clear hr a; intro a hr
  refine evD hgo ⟨⟨h.cell 0 rfl, h.cell 1 rfl, trivial⟩, trivial⟩ 12 3 rfl (by kernel_rfl) (wn rfl) hr (.pointer (some ⟨B0, 0, none⟩)) (fun w => by kernel_rfl) ?_; clear hr a; intro a hr
  refine evD hgo ⟨⟨h.cell 0 rfl, h.cell 1 rfl, trivial⟩, trivial⟩ 11 4 rfl (by kernel_rfl) (wn rfl) hr (.pointer (some ⟨B0, 0, none⟩)) (fun w => by kernel_rfl) ?_; clear hr a; intro a hr
  refine evD hgo ⟨⟨h.cell 0 rfl, h.cell 1 rfl, trivial⟩, trivial⟩ 10 7 rfl (by kernel_rfl) (wn rfl) hr (.func (.method "Add") #[.iface 26 (.pointer (some ⟨B1, 0, none⟩))] #[]) (fun w => by kernel_rfl) ?_; clear hr a; intro a hr
  refine evD hgo ⟨⟨h.cell 0 rfl, h.cell 1 rfl, trivial⟩, trivial⟩ 9 8 rfl (by kernel_rfl) (wn rfl) hr (.func (.method "Add") #[.iface 26 (.pointer (some ⟨B1, 0, none⟩))] #[]) (fun w => by kernel_rfl) ?_; clear hr a; intro a hr
  refine ev 8 9 rfl (by kernel_rfl) (wn rfl) hr (.iface 26 (.pointer (some ⟨B1, 0, none⟩))) (fun w => by kernel_rfl) ?_; clear hr a; intro a hr
  refine el [2, 3, 4, 6, 7, 8] (b := B0) (off := 0) (cs := [.int .i64 p0.head_t_Base, .int .i64 p0.head_t_Frames]) (fun _ hk => ⟨hk, fun w hD => hD.1⟩) 7 5 rfl (by kernel_rfl) (wn rfl) hr (.agg #[.int .i64 p0.head_t_Base, .int .i64 p0.head_t_Frames]) ⟨h.cell 0 rfl, h.cell 1 rfl, trivial⟩ (fun w hc => rlm (cs := [.int .i64 p0.head_t_Base, .int .i64 p0.head_t_Frames]) rfl (by kernel_rfl) (by kernel_rfl) (by kernel_rfl) hc) ?_; clear hr a; intro a hr
  refine e_one (fuel := 6) (i := 6) (by kernel_rfl) rfl ?_
  have hc := frames_Table__next_ok (H := e6) (h := h)
  refine op_call (wn rfl) rfl rfl hr (f := 98) (args := #[.agg #[.int .i64 p0.head_t_Base, .int .i64 p0.head_t_Frames]]) (by kernel_rfl) hc ?_; clear hc h
  rintro _ w ⟨rfl, h⟩; refine ⟨_, rfl, ?_⟩
  clear hr a; intro a hr
  refine wpList_nil ?_; refine then_normal ?_
  refine ⟨fun _ => ⟨⟨h.cell 0 rfl, h.cell 1 rfl, trivial⟩, trivial⟩, ?_⟩
  refine e_one (fuel := 5) (i := 10) (by kernel_rfl) rfl ?_
  replace h : Fit z (sepL (ob103 B1 p1 ca1 cc2 ca3 cc4 :: ro2 ca1 cc2 p1.cell :: ro96 ca3 cc4 p1.log :: ob50 B0 p0 :: L)) _ := h.sel 4 [1, 2, 3, 0] (by kernel_rfl) (by kernel_rfl)
  have hc := cells_Arena_Add_ok (H := e10) (h := h)
  refine op_call (wn rfl) rfl rfl hr (f := 122) (args := #[.pointer (some ⟨B1, 0, none⟩), .int .i64 r5, .int .i64 1]) (by kernel_rfl) hc ?_; clear hc h
  rintro _ w ⟨caq11, ccq12, caq13, ccq14, rfl, h⟩; refine ⟨_, rfl, ?_⟩
  clear hr a; intro a hr
  refine wpList_nil ?_; refine then_normal ?_
  refine ⟨fun hE => absurd hE (by decide), ?_⟩
  refine ev 4 11 rfl (by kernel_rfl) (wn rfl) hr (.tuple #[.int .i64 r7, .int .i64 r8]) (fun w => by kernel_rfl) ?_; clear hr a; intro a hr
  refine ev 3 12 rfl (by kernel_rfl) (wn rfl) hr (.int .i64 r7) (fun w => by kernel_rfl) ?_; clear hr a; intro a hr
  refine ev 2 13 rfl (by kernel_rfl) (wn rfl) hr (.int .i64 r8) (fun w => by kernel_rfl) ?_; clear hr a; intro a hr
  refine ev 1 14 rfl (by kernel_rfl) (wn rfl) hr (.int .i64 r7) (fun w => by kernel_rfl) ?_; clear hr a; intro a hr
  refine ev 0 15 rfl (by kernel_rfl) (wn rfl) hr (.int .i64 r8) (fun w => by kernel_rfl) ?_; clear hr a; intro a hr
  refine e_end (by kernel_rfl) ?_
  refine then_normal ?_
  refine wp_seq ?_
  refine wp_seq ?_
  refine wp_region_lit ?_
  refine ovs [21, 22] [.int .i64 r8, .bool (r8 != (0 : Int))] hr ⟨rfl, rfl⟩ (by kernel_rfl) ?_; clear hr a; intro a hr
  refine wpList_nil ?_
  refine then_normal ?_
  by_cases c15 : r8 = (0 : Int)
  ·
    replace H := ifT c15 H
    refine cond_ff hr (b := (r8 != (0 : Int))) (bne_eq_false_iff_eq.mpr c15) ?_
    refine wp_skip ?_
    refine then_normal ?_
    refine wp_seq ?_
    replace H := kd1 H; obtain ⟨o18, H, hK17⟩ := H
    refine cut_rule (β := Unit) (fun _ a w => ∃ g16 : Bool, g16 = o18 ∧ ∃ j, Rep 46 (lk [(0, .pointer (some ⟨B0, 0, none⟩)), (5, .int .i64 r7), (35, .bool g16)] j) a ∧ Fit z (sepL (ob50 B0 p0 :: ob103 B1 S9 caq11 ccq12 caq13 ccq14 :: ro2 caq11 ccq12 S9.cell :: ro96 caq13 ccq14 S9.log :: L)) w) ?_ ?_
    ·
      refine wp_region_lit ?_
      refine ovs [24, 25, 26] [.int .i64 r7, .bool (decide (r7 ≥ (1 : Int))), .bool (decide (r7 ≥ (1 : Int)))] hr ⟨rfl, rfl⟩ (by kernel_rfl) ?_; clear hr a; intro a hr
      by_cases c19 : r7 ≥ (1 : Int)
      ·
        replace H := ifT c19 H
        refine op_val ((wg hr rfl rfl rfl (b' := (decide (r7 ≥ (1 : Int)))) (by kernel_rfl)).trans (by rw [show (decide (r7 ≥ (1 : Int))) = true from (decide_eq_true c19)]; rfl)) rfl rfl hr (v := .int .i64 r7) (by kernel_rfl) ?_; clear hr a; intro a hr
        refine op_val ((wg hr rfl rfl rfl (b' := (decide (r7 ≥ (1 : Int)))) (by kernel_rfl)).trans (by rw [show (decide (r7 ≥ (1 : Int))) = true from (decide_eq_true c19)]; rfl)) rfl rfl hr (v := .pointer (some ⟨B0, 0, none⟩)) (by kernel_rfl) ?_; clear hr a; intro a hr
        refine op_val ((wg hr rfl rfl rfl (b' := (decide (r7 ≥ (1 : Int)))) (by kernel_rfl)).trans (by rw [show (decide (r7 ≥ (1 : Int))) = true from (decide_eq_true c19)]; rfl)) rfl rfl hr (v := .pointer (some ⟨B0, 0, none⟩)) (by kernel_rfl) ?_; clear hr a; intro a hr
        refine op_val ((wg hr rfl rfl rfl (b' := (decide (r7 ≥ (1 : Int)))) (by kernel_rfl)).trans (by rw [show (decide (r7 ≥ (1 : Int))) = true from (decide_eq_true c19)]; rfl)) rfl rfl hr (v := .pointer (some ⟨B0, 0, none⟩)) (by kernel_rfl) ?_; clear hr a; intro a hr
        refine op_val ((wg hr rfl rfl rfl (b' := (decide (r7 ≥ (1 : Int)))) (by kernel_rfl)).trans (by rw [show (decide (r7 ≥ (1 : Int))) = true from (decide_eq_true c19)]; rfl)) rfl rfl hr (v := .pointer (some ⟨B0, 0, none⟩)) (by kernel_rfl) ?_; clear hr a; intro a hr
        refine op_val ((wg hr rfl rfl rfl (b' := (decide (r7 ≥ (1 : Int)))) (by kernel_rfl)).trans (by rw [show (decide (r7 ≥ (1 : Int))) = true from (decide_eq_true c19)]; rfl)) rfl rfl hr (v := .pointer (some ⟨B0, 1, none⟩)) (by kernel_rfl) ?_; clear hr a; intro a hr
        refine op_val ((wg hr rfl rfl rfl (b' := (decide (r7 ≥ (1 : Int)))) (by kernel_rfl)).trans (by rw [show (decide (r7 ≥ (1 : Int))) = true from (decide_eq_true c19)]; rfl)) rfl rfl hr (v := .int .i64 p0.head_t_Frames) (rl rfl (by kernel_rfl) (by kernel_rfl) ((h.pick 3).cell 1 rfl)) ?_; clear hr a; intro a hr
        refine op_val ((wg hr rfl rfl rfl (b' := (decide (r7 ≥ (1 : Int)))) (by kernel_rfl)).trans (by rw [show (decide (r7 ≥ (1 : Int))) = true from (decide_eq_true c19)]; rfl)) rfl rfl hr (v := .bool (decide (r7 ≤ p0.head_t_Frames))) (by kernel_rfl) ?_; clear hr a; intro a hr
        refine op_val (wn rfl) rfl rfl hr (v := .bool (decide (r7 ≤ p0.head_t_Frames))) (rp_t (b := (decide (r7 ≥ (1 : Int)))) rfl (by kernel_rfl) (decide_eq_true c19) (by kernel_rfl)) ?_; clear hr a; intro a hr
        refine wpList_nil ?_
        refine then_normal ?_
        replace hr := hr.fold2 [(0, .pointer (some ⟨B0, 0, none⟩)), (5, .int .i64 r7), (35, .bool (decide (r7 ≤ p0.head_t_Frames)))] (by kernel_rfl); obtain ⟨j, hr⟩ := hr
        replace h : Fit z (sepL (ob50 B0 p0 :: ob103 B1 S9 caq11 ccq12 caq13 ccq14 :: ro2 caq11 ccq12 S9.cell :: ro96 caq13 ccq14 S9.log :: L)) _ := h.sel 4 [3, 0, 1, 2] (by kernel_rfl) (by kernel_rfl)
        exact ⟨(), (decide (r7 ≤ p0.head_t_Frames)), sinj H, j, hr, h⟩
      ·
        replace H := ifF c19 H
        refine op_off ((wg hr rfl rfl rfl (b' := (decide (r7 ≥ (1 : Int)))) (by kernel_rfl)).trans (by rw [show (decide (r7 ≥ (1 : Int))) = false from (decide_eq_false c19)]; rfl)) rfl rfl hr ?_; clear hr a; intro a hr
        refine op_off ((wg hr rfl rfl rfl (b' := (decide (r7 ≥ (1 : Int)))) (by kernel_rfl)).trans (by rw [show (decide (r7 ≥ (1 : Int))) = false from (decide_eq_false c19)]; rfl)) rfl rfl hr ?_; clear hr a; intro a hr
        refine op_off ((wg hr rfl rfl rfl (b' := (decide (r7 ≥ (1 : Int)))) (by kernel_rfl)).trans (by rw [show (decide (r7 ≥ (1 : Int))) = false from (decide_eq_false c19)]; rfl)) rfl rfl hr ?_; clear hr a; intro a hr
        refine op_off ((wg hr rfl rfl rfl (b' := (decide (r7 ≥ (1 : Int)))) (by kernel_rfl)).trans (by rw [show (decide (r7 ≥ (1 : Int))) = false from (decide_eq_false c19)]; rfl)) rfl rfl hr ?_; clear hr a; intro a hr
        refine op_off ((wg hr rfl rfl rfl (b' := (decide (r7 ≥ (1 : Int)))) (by kernel_rfl)).trans (by rw [show (decide (r7 ≥ (1 : Int))) = false from (decide_eq_false c19)]; rfl)) rfl rfl hr ?_; clear hr a; intro a hr
        refine op_off ((wg hr rfl rfl rfl (b' := (decide (r7 ≥ (1 : Int)))) (by kernel_rfl)).trans (by rw [show (decide (r7 ≥ (1 : Int))) = false from (decide_eq_false c19)]; rfl)) rfl rfl hr ?_; clear hr a; intro a hr
        refine op_off ((wg hr rfl rfl rfl (b' := (decide (r7 ≥ (1 : Int)))) (by kernel_rfl)).trans (by rw [show (decide (r7 ≥ (1 : Int))) = false from (decide_eq_false c19)]; rfl)) rfl rfl hr ?_; clear hr a; intro a hr
        refine op_off ((wg hr rfl rfl rfl (b' := (decide (r7 ≥ (1 : Int)))) (by kernel_rfl)).trans (by rw [show (decide (r7 ≥ (1 : Int))) = false from (decide_eq_false c19)]; rfl)) rfl rfl hr ?_; clear hr a; intro a hr
        refine op_val (wn rfl) rfl rfl hr (v := .bool false) (rp_f (b := (decide (r7 ≥ (1 : Int)))) rfl (by kernel_rfl) (decide_eq_false c19) (by kernel_rfl)) ?_; clear hr a; intro a hr
        refine wpList_nil ?_
        refine then_normal ?_
        replace hr := hr.fold2 [(0, .pointer (some ⟨B0, 0, none⟩)), (5, .int .i64 r7), (35, .bool false)] (by kernel_rfl); obtain ⟨j, hr⟩ := hr
        replace h : Fit z (sepL (ob50 B0 p0 :: ob103 B1 S9 caq11 ccq12 caq13 ccq14 :: ro2 caq11 ccq12 S9.cell :: ro96 caq13 ccq14 S9.log :: L)) _ := h.sel 4 [3, 0, 1, 2] (by kernel_rfl) (by kernel_rfl)
        exact ⟨(), false, sinj H, j, hr, h⟩
    clear h hr a; rintro _ a w ⟨g16, rfl, j, hr, h⟩
    replace H := kk1 hK17
    by_cases c20 : g16 = true
    ·
      replace H := ifT c20 H
      refine cond_tt hr (b := g16) (c20) ?_
      refine wp_region_lit ?_
      replace H := bd1 H; obtain ⟨S21, e22, H⟩ := H
      refine ovs [36, 37, 38, 39, 40] [.pointer (some ⟨B0, 0, none⟩), .pointer (some ⟨B0, 0, none⟩), .pointer (some ⟨B0, 0, none⟩), .int .i64 r7, .int .i64 (wi (r7 - (1 : Int)))] hr ⟨rfl, rfl⟩ (by kernel_rfl) ?_; clear hr a; intro a hr
      have hc := frames_head_end_ok (H := e22) (h := h)
      refine op_call (wn rfl) rfl rfl hr (f := 56) (args := #[.pointer (some ⟨B0, 0, none⟩), .int .i64 4, .int .i64 (wi (r7 - (1 : Int)))]) (by kernel_rfl) hc ?_; clear hc h
      rintro _ w ⟨rfl, h⟩; refine ⟨_, rfl, ?_⟩
      clear hr a; intro a hr
      refine wpList_nil ?_
      refine then_normal ?_
      refine wp_seq ?_
      refine wp_region_lit ?_
      refine ov hr (.int .i64 0) (by kernel_rfl) ?_; clear hr a; intro a hr
      refine wpList_nil ?_
      refine then_normal ?_
      refine wp_ret ?_
      refine end_ret1 (v := .int .i64 0) rfl hr (by kernel_rfl) ?_
      replace H := ej3 H; obtain ⟨rfl, rfl, rfl⟩ := H
      exact ⟨caq11, ccq12, caq13, ccq14, rfl, h⟩
    ·
      replace H := ifF c20 H
      refine cond_ff hr (b := g16) (bF c20) ?_
      refine wp_region_lit ?_
      replace H := bd1 H; obtain ⟨S23, e24, H⟩ := H
      refine ovs [42, 43, 44] [.pointer (some ⟨B0, 0, none⟩), .pointer (some ⟨B0, 0, none⟩), .pointer (some ⟨B0, 0, none⟩)] hr ⟨rfl, rfl⟩ (by kernel_rfl) ?_; clear hr a; intro a hr
      have hc := frames_head_end_ok (H := e24) (h := h)
      refine op_call (wn rfl) rfl rfl hr (f := 56) (args := #[.pointer (some ⟨B0, 0, none⟩), .int .i64 3, .int .i64 0]) (by kernel_rfl) hc ?_; clear hc h
      rintro _ w ⟨rfl, h⟩; refine ⟨_, rfl, ?_⟩
      clear hr a; intro a hr
      refine wpList_nil ?_
      refine then_normal ?_
      refine wp_seq ?_
      refine wp_region_lit ?_
      refine ov hr (.int .i64 0) (by kernel_rfl) ?_; clear hr a; intro a hr
      refine wpList_nil ?_
      refine then_normal ?_
      refine wp_ret ?_
      refine end_ret1 (v := .int .i64 0) rfl hr (by kernel_rfl) ?_
      replace H := ej3 H; obtain ⟨rfl, rfl, rfl⟩ := H
      exact ⟨caq11, ccq12, caq13, ccq14, rfl, h⟩
  ·
    replace H := ifF c15 H
    refine cond_tt hr (b := (r8 != (0 : Int))) (bne_iff_ne.mpr c15) ?_
    refine wp_seq ?_
    refine wp_region_lit ?_
    refine ovs [23, 4] [.int .i64 r8, .int .i64 r8] hr ⟨rfl, rfl⟩ (by kernel_rfl) ?_; clear hr a; intro a hr
    refine wpList_nil ?_
    refine then_normal ?_
    refine wp_ret ?_
    refine then_ret ?_
    refine end_ret1 (v := .int .i64 r8) rfl hr (by kernel_rfl) ?_
    replace h : Fit z (sepL (ob50 B0 p0 :: ob103 B1 S9 caq11 ccq12 caq13 ccq14 :: ro2 caq11 ccq12 S9.cell :: ro96 caq13 ccq14 S9.log :: L)) _ := h.sel 4 [3, 0, 1, 2] (by kernel_rfl) (by kernel_rfl)
    replace H := ej3 H; obtain ⟨rfl, rfl, rfl⟩ := H
    exact ⟨caq11, ccq12, caq13, ccq14, rfl, h⟩

/-- (*plunder/frames.Op).fork -/
def frames_Op_fork_iface (p0 : T_frames_Op) (p1 : T_cells_Arena) : Option (Int × T_frames_Op × T_cells_Arena) :=
  ob1 (frames_Table__join (⟨p0.head_t_Base, p0.head_t_Frames⟩ : T_frames_Table) p0.head_frame) (fun r5 => ob3 (cells_Arena_Add p1 r5 1) (fun r7 r8 S9 => (if r8 = (0 : Int) then ob1 (frames_head_end p0 9 r7) (fun S16 => some (r8, S16, S9)) else some (r8, p0, S9))))
set_option maxRecDepth 100000 in
set_option maxHeartbeats 4000000 in
theorem frames_Op_fork_iface_ok {z w : World} {L : List HProp} {p0 : T_frames_Op} {p1 : T_cells_Arena} {B0 : Nat} {B1 : Nat} {ca1 : Option Addr} {cc2 : Nat} {ca3 : Option Addr} {cc4 : Nat} {r0 : Int} {q0 : T_frames_Op} {q1 : T_cells_Arena} (H : frames_Op_fork_iface p0 p1 = some (r0, q0, q1)) (h : Fit z (sepL (ob50 B0 p0 :: ob103 B1 p1 ca1 cc2 ca3 cc4 :: ro2 ca1 cc2 p1.cell :: ro96 ca3 cc4 p1.log :: L)) w)  :
    Calls Try.prog 82 #[.pointer (some ⟨B0, 0, none⟩), .iface 26 (.pointer (some ⟨B1, 0, none⟩))] w fun e w => ∃ caq1_1 : Option Addr, ∃ ccq1_2 : Nat, ∃ caq1_3 : Option Addr, ∃ ccq1_4 : Nat, e = .returned (.int .i64 r0) ∧ Fit z (sepL (ob50 B0 q0 :: ob103 B1 q1 caq1_1 ccq1_2 caq1_3 ccq1_4 :: ro2 caq1_1 ccq1_2 q1.cell :: ro96 caq1_3 ccq1_4 q1.log :: L)) w := by
  unfold frames_Op_fork_iface at H
  refine enter Try.func82 rfl 34 rfl rfl [(0, .pointer (some ⟨B0, 0, none⟩)), (1, .iface 26 (.pointer (some ⟨B1, 0, none⟩)))] ⟨rfl, rfl, trivial⟩ ?_
  intro j a hr
  refine wp_seq ?_
  refine wp_region_lit ?_
  refine ov hr (.int .i64 0) (by kernel_rfl) ?_; clear hr a; intro a hr
  refine wpList_nil ?_
  refine then_normal ?_
  refine wp_seq ?_
  replace H := bd1 H; obtain ⟨r5, e6, H⟩ := H
  replace H := bd3 H; obtain ⟨r7, r8, S9, e10, H⟩ := H
  refine reg_E (fun w => heldC w B0 0 [.int .i64 p0.head_t_Base, .int .i64 p0.head_t_Frames] ∧ heldC w B0 2 [.int .i64 p0.head_frame] ∧ True) [2, 3, 4, 7, 8, 9, 11, 12, 13] h (by kernel_rfl) ?_; intro w h
  change wpAnyE _ _ _ _ _ _ 21 (Array.replicate 21 false) a w
  have hgo : ∀ w w', CellsGo w w' → (heldC w B0 0 [.int .i64 p0.head_t_Base, .int .i64 p0.head_t_Frames] ∧ heldC w B0 2 [.int .i64 p0.head_frame] ∧ True) → heldC w' B0 0 [.int .i64 p0.head_t_Base, .int .i64 p0.head_t_Frames] ∧ heldC w' B0 2 [.int .i64 p0.head_frame] ∧ True := fun w w' g hD => ⟨heldC_go _ _ _ _ _ g hD.1, heldC_go _ _ _ _ _ g hD.2.1, trivial⟩
  refine ev 20 0 rfl (by kernel_rfl) (wn rfl) hr (.iface 26 (.pointer (some ⟨B1, 0, none⟩))) (fun w => by kernel_rfl) ?_; clear hr a; intro a hr
  refine ev 19 1 rfl (by kernel_rfl) (wn rfl) hr (.pointer (some ⟨B0, 0, none⟩)) (fun w => by kernel_rfl) ?_; clear hr a; intro a hr
  refine evD hgo ⟨⟨h.cell 0 rfl, h.cell 1 rfl, trivial⟩, ⟨h.cell 2 rfl, trivial⟩, trivial⟩ 18 2 rfl (by kernel_rfl) (wn rfl) hr (.pointer (some ⟨B0, 0, none⟩)) (fun w => by kernel_rfl) ?_; clear hr a; intro a hr
  refine evD hgo ⟨⟨h.cell 0 rfl, h.cell 1 rfl, trivial⟩, ⟨h.cell 2 rfl, trivial⟩, trivial⟩ 17 3 rfl (by kernel_rfl) (wn rfl) hr (.pointer (some ⟨B0, 0, none⟩)) (fun w => by kernel_rfl) ?_; clear hr a; intro a hr
  refine evD hgo ⟨⟨h.cell 0 rfl, h.cell 1 rfl, trivial⟩, ⟨h.cell 2 rfl, trivial⟩, trivial⟩ 16 4 rfl (by kernel_rfl) (wn rfl) hr (.pointer (some ⟨B0, 0, none⟩)) (fun w => by kernel_rfl) ?_; clear hr a; intro a hr
  refine ev 15 6 rfl (by kernel_rfl) (wn rfl) hr (.pointer (some ⟨B0, 0, none⟩)) (fun w => by kernel_rfl) ?_; clear hr a; intro a hr
  refine evD hgo ⟨⟨h.cell 0 rfl, h.cell 1 rfl, trivial⟩, ⟨h.cell 2 rfl, trivial⟩, trivial⟩ 14 7 rfl (by kernel_rfl) (wn rfl) hr (.pointer (some ⟨B0, 0, none⟩)) (fun w => by kernel_rfl) ?_; clear hr a; intro a hr
  refine evD hgo ⟨⟨h.cell 0 rfl, h.cell 1 rfl, trivial⟩, ⟨h.cell 2 rfl, trivial⟩, trivial⟩ 13 8 rfl (by kernel_rfl) (wn rfl) hr (.pointer (some ⟨B0, 0, none⟩)) (fun w => by kernel_rfl) ?_; clear hr a; intro a hr
  refine evD hgo ⟨⟨h.cell 0 rfl, h.cell 1 rfl, trivial⟩, ⟨h.cell 2 rfl, trivial⟩, trivial⟩ 12 9 rfl (by kernel_rfl) (wn rfl) hr (.pointer (some ⟨B0, 2, none⟩)) (fun w => by kernel_rfl) ?_; clear hr a; intro a hr
  refine evD hgo ⟨⟨h.cell 0 rfl, h.cell 1 rfl, trivial⟩, ⟨h.cell 2 rfl, trivial⟩, trivial⟩ 11 12 rfl (by kernel_rfl) (wn rfl) hr (.func (.method "Add") #[.iface 26 (.pointer (some ⟨B1, 0, none⟩))] #[]) (fun w => by kernel_rfl) ?_; clear hr a; intro a hr
  refine evD hgo ⟨⟨h.cell 0 rfl, h.cell 1 rfl, trivial⟩, ⟨h.cell 2 rfl, trivial⟩, trivial⟩ 10 13 rfl (by kernel_rfl) (wn rfl) hr (.func (.method "Add") #[.iface 26 (.pointer (some ⟨B1, 0, none⟩))] #[]) (fun w => by kernel_rfl) ?_; clear hr a; intro a hr
  refine ev 9 14 rfl (by kernel_rfl) (wn rfl) hr (.iface 26 (.pointer (some ⟨B1, 0, none⟩))) (fun w => by kernel_rfl) ?_; clear hr a; intro a hr
  refine el [2, 3, 4, 7, 8, 9, 11, 12, 13] (b := B0) (off := 0) (cs := [.int .i64 p0.head_t_Base, .int .i64 p0.head_t_Frames]) (fun _ hk => ⟨hk, fun w hD => hD.1⟩) 8 5 rfl (by kernel_rfl) (wn rfl) hr (.agg #[.int .i64 p0.head_t_Base, .int .i64 p0.head_t_Frames]) ⟨h.cell 0 rfl, h.cell 1 rfl, trivial⟩ (fun w hc => rlm (cs := [.int .i64 p0.head_t_Base, .int .i64 p0.head_t_Frames]) rfl (by kernel_rfl) (by kernel_rfl) (by kernel_rfl) hc) ?_; clear hr a; intro a hr
  refine el [2, 3, 4, 7, 8, 9, 11, 12, 13] (b := B0) (off := 2) (cs := [.int .i64 p0.head_frame]) (fun _ hk => ⟨hk, fun w hD => hD.2.1⟩) 7 10 rfl (by kernel_rfl) (wn rfl) hr (.int .i64 p0.head_frame) ⟨h.cell 2 rfl, trivial⟩ (fun w hc => rl rfl (by kernel_rfl) (by kernel_rfl) hc.1) ?_; clear hr a; intro a hr
  refine e_one (fuel := 6) (i := 11) (by kernel_rfl) rfl ?_
  have hc := frames_Table__join_ok (H := e6) (h := h)
  refine op_call (wn rfl) rfl rfl hr (f := 54) (args := #[.agg #[.int .i64 p0.head_t_Base, .int .i64 p0.head_t_Frames], .int .i64 p0.head_frame]) (by kernel_rfl) hc ?_; clear hc h
  rintro _ w ⟨rfl, h⟩; refine ⟨_, rfl, ?_⟩
  clear hr a; intro a hr
  refine wpList_nil ?_; refine then_normal ?_
  refine ⟨fun _ => ⟨⟨h.cell 0 rfl, h.cell 1 rfl, trivial⟩, ⟨h.cell 2 rfl, trivial⟩, trivial⟩, ?_⟩
  refine e_one (fuel := 5) (i := 15) (by kernel_rfl) rfl ?_
  replace h : Fit z (sepL (ob103 B1 p1 ca1 cc2 ca3 cc4 :: ro2 ca1 cc2 p1.cell :: ro96 ca3 cc4 p1.log :: ob50 B0 p0 :: L)) _ := h.sel 4 [1, 2, 3, 0] (by kernel_rfl) (by kernel_rfl)
  have hc := cells_Arena_Add_ok (H := e10) (h := h)
  refine op_call (wn rfl) rfl rfl hr (f := 122) (args := #[.pointer (some ⟨B1, 0, none⟩), .int .i64 r5, .int .i64 1]) (by kernel_rfl) hc ?_; clear hc h
  rintro _ w ⟨caq11, ccq12, caq13, ccq14, rfl, h⟩; refine ⟨_, rfl, ?_⟩
  clear hr a; intro a hr
  refine wpList_nil ?_; refine then_normal ?_
  refine ⟨fun hE => absurd hE (by decide), ?_⟩
  refine ev 4 16 rfl (by kernel_rfl) (wn rfl) hr (.tuple #[.int .i64 r7, .int .i64 r8]) (fun w => by kernel_rfl) ?_; clear hr a; intro a hr
  refine ev 3 17 rfl (by kernel_rfl) (wn rfl) hr (.int .i64 r7) (fun w => by kernel_rfl) ?_; clear hr a; intro a hr
  refine ev 2 18 rfl (by kernel_rfl) (wn rfl) hr (.int .i64 r8) (fun w => by kernel_rfl) ?_; clear hr a; intro a hr
  refine ev 1 19 rfl (by kernel_rfl) (wn rfl) hr (.int .i64 r7) (fun w => by kernel_rfl) ?_; clear hr a; intro a hr
  refine ev 0 20 rfl (by kernel_rfl) (wn rfl) hr (.int .i64 r8) (fun w => by kernel_rfl) ?_; clear hr a; intro a hr
  refine e_end (by kernel_rfl) ?_
  refine then_normal ?_
  refine wp_seq ?_
  refine wp_seq ?_
  refine wp_region_lit ?_
  refine ovs [26, 27] [.int .i64 r8, .bool (r8 == (0 : Int))] hr ⟨rfl, rfl⟩ (by kernel_rfl) ?_; clear hr a; intro a hr
  refine wpList_nil ?_
  refine then_normal ?_
  by_cases c15 : r8 = (0 : Int)
  ·
    replace H := ifT c15 H
    refine cond_tt hr (b := (r8 == (0 : Int))) (beq_iff_eq.mpr c15) ?_
    refine wp_region_lit ?_
    replace H := bd1 H; obtain ⟨S16, e17, H⟩ := H
    refine ovs [28, 29, 30, 31] [.pointer (some ⟨B0, 0, none⟩), .pointer (some ⟨B0, 0, none⟩), .pointer (some ⟨B0, 0, none⟩), .int .i64 r7] hr ⟨rfl, rfl⟩ (by kernel_rfl) ?_; clear hr a; intro a hr
    replace h : Fit z (sepL (ob50 B0 p0 :: ob103 B1 S9 caq11 ccq12 caq13 ccq14 :: ro2 caq11 ccq12 S9.cell :: ro96 caq13 ccq14 S9.log :: L)) _ := h.sel 4 [3, 0, 1, 2] (by kernel_rfl) (by kernel_rfl)
    have hc := frames_head_end_ok (H := e17) (h := h)
    refine op_call (wn rfl) rfl rfl hr (f := 56) (args := #[.pointer (some ⟨B0, 0, none⟩), .int .i64 9, .int .i64 r7]) (by kernel_rfl) hc ?_; clear hc h
    rintro _ w ⟨rfl, h⟩; refine ⟨_, rfl, ?_⟩
    clear hr a; intro a hr
    refine wpList_nil ?_
    refine then_normal ?_
    refine wp_seq ?_
    refine wp_region_lit ?_
    refine ovs [33, 4] [.int .i64 r8, .int .i64 r8] hr ⟨rfl, rfl⟩ (by kernel_rfl) ?_; clear hr a; intro a hr
    refine wpList_nil ?_
    refine then_normal ?_
    refine wp_ret ?_
    refine end_ret1 (v := .int .i64 r8) rfl hr (by kernel_rfl) ?_
    replace H := ej3 H; obtain ⟨rfl, rfl, rfl⟩ := H
    exact ⟨caq11, ccq12, caq13, ccq14, rfl, h⟩
  ·
    replace H := ifF c15 H
    refine cond_ff hr (b := (r8 == (0 : Int))) (beq_eq_false_iff_ne.mpr c15) ?_
    refine wp_skip ?_
    refine then_normal ?_
    refine wp_seq ?_
    refine wp_region_lit ?_
    refine ovs [33, 4] [.int .i64 r8, .int .i64 r8] hr ⟨rfl, rfl⟩ (by kernel_rfl) ?_; clear hr a; intro a hr
    refine wpList_nil ?_
    refine then_normal ?_
    refine wp_ret ?_
    refine end_ret1 (v := .int .i64 r8) rfl hr (by kernel_rfl) ?_
    replace h : Fit z (sepL (ob50 B0 p0 :: ob103 B1 S9 caq11 ccq12 caq13 ccq14 :: ro2 caq11 ccq12 S9.cell :: ro96 caq13 ccq14 S9.log :: L)) _ := h.sel 4 [3, 0, 1, 2] (by kernel_rfl) (by kernel_rfl)
    replace H := ej3 H; obtain ⟨rfl, rfl, rfl⟩ := H
    exact ⟨caq11, ccq12, caq13, ccq14, rfl, h⟩

/-- (plunder/frames.Table).slot -/
def frames_Table__slot (p0 : T_frames_Table) (p1 : Int) (p2 : Int) : Option (Int) :=
  ob1 (frames_Table__join p0 p1) (fun r2 => some (wi ((wi (r2 + (2 : Int))) + p2)))
set_option maxRecDepth 100000 in
set_option maxHeartbeats 4000000 in
theorem frames_Table__slot_ok {z w : World} {L : List HProp} {p0 : T_frames_Table} {p1 : Int} {p2 : Int} {r0 : Int} (H : frames_Table__slot p0 p1 p2 = some r0) (h : Fit z (sepL (L)) w)  :
    Calls Try.prog 99 #[.agg #[.int .i64 p0.Base, .int .i64 p0.Frames], .int .i64 p1, .int .i64 p2] w fun e w => e = .returned (.int .i64 r0) ∧ Fit z (sepL (L)) w := by
  unfold frames_Table__slot at H
  refine enter Try.func99 rfl 13 rfl rfl [(0, .agg #[.int .i64 p0.Base, .int .i64 p0.Frames]), (1, .int .i64 p1), (2, .int .i64 p2)] ⟨rfl, rfl, rfl, trivial⟩ ?_
  intro j a hr
  refine wp_seq ?_
  refine wp_region_lit ?_
  refine op_new (wn rfl) rfl rfl hr h (vf := fun b => .pointer (some ⟨b, 0, none⟩)) (cs := #[.int .i64 p0.Base, .int .i64 p0.Frames]) (T := 39) (by kernel_rfl) ?_; clear h hr a; intro b1 w a h hr
  refine ov hr (.int .i64 0) (by kernel_rfl) ?_; clear hr a; intro a hr
  refine wpList_nil ?_
  refine then_normal ?_
  refine wp_seq ?_
  refine wp_region_lit ?_
  refine op_val (wn rfl) rfl rfl hr (v := .agg #[.int .i64 p0.Base, .int .i64 p0.Frames]) (rlm (cs := [.int .i64 p0.Base, .int .i64 p0.Frames]) rfl (by kernel_rfl) (by kernel_rfl) (by kernel_rfl) ⟨h.cell 0 rfl, h.cell 1 rfl, trivial⟩) ?_; clear hr a; intro a hr
  replace H := bd1 H; obtain ⟨r2, e3, H⟩ := H
  refine ov hr (.int .i64 p1) (by kernel_rfl) ?_; clear hr a; intro a hr
  have hc := frames_Table__join_ok (H := e3) (h := h)
  refine op_call (wn rfl) rfl rfl hr (f := 54) (args := #[.agg #[.int .i64 p0.Base, .int .i64 p0.Frames], .int .i64 p1]) (by kernel_rfl) hc ?_; clear hc h
  rintro _ w ⟨rfl, h⟩; refine ⟨_, rfl, ?_⟩
  clear hr a; intro a hr
  refine ovs [10, 11, 12, 6] [.int .i64 (wi (r2 + (2 : Int))), .int .i64 p2, .int .i64 (wi ((wi (r2 + (2 : Int))) + p2)), .int .i64 (wi ((wi (r2 + (2 : Int))) + p2))] hr ⟨rfl, rfl⟩ (by kernel_rfl) ?_; clear hr a; intro a hr
  refine wpList_nil ?_
  refine then_normal ?_
  refine wp_ret ?_
  refine end_ret1 (v := .int .i64 (wi ((wi (r2 + (2 : Int))) + p2))) rfl hr (by kernel_rfl) ?_
  replace h : Fit z (sepL (L)) _ := h.sel 1 [] (by kernel_rfl) (by kernel_rfl)
  replace H := ej1 H; subst H
  exact ⟨rfl, h⟩

/-- (*plunder/frames.Op).less -/
def frames_Op_less_iface (p0 : T_frames_Op) (p1 : T_cells_Arena) (p2 : Int) : Option (Int × T_frames_Op × T_cells_Arena) :=
  ob1 (frames_Table__join (⟨p0.head_t_Base, p0.head_t_Frames⟩ : T_frames_Table) p0.head_frame) (fun r5 => ob3 (cells_Arena_Add p1 r5 (-1)) (fun r7 r8 S9 => (if r8 = (0 : Int) then (if r7 = (0 : Int) then some (r8, p0, S9) else ob1 (frames_head_end p0 p2 r7) (fun S17 => some (r8, S17, S9))) else some (r8, p0, S9))))
set_option maxRecDepth 100000 in
set_option maxHeartbeats 4000000 in
theorem frames_Op_less_iface_ok {z w : World} {L : List HProp} {p0 : T_frames_Op} {p1 : T_cells_Arena} {p2 : Int} {B0 : Nat} {B1 : Nat} {ca1 : Option Addr} {cc2 : Nat} {ca3 : Option Addr} {cc4 : Nat} {r0 : Int} {q0 : T_frames_Op} {q1 : T_cells_Arena} (H : frames_Op_less_iface p0 p1 p2 = some (r0, q0, q1)) (h : Fit z (sepL (ob50 B0 p0 :: ob103 B1 p1 ca1 cc2 ca3 cc4 :: ro2 ca1 cc2 p1.cell :: ro96 ca3 cc4 p1.log :: L)) w)  :
    Calls Try.prog 100 #[.pointer (some ⟨B0, 0, none⟩), .iface 26 (.pointer (some ⟨B1, 0, none⟩)), .int .i64 p2] w fun e w => ∃ caq1_1 : Option Addr, ∃ ccq1_2 : Nat, ∃ caq1_3 : Option Addr, ∃ ccq1_4 : Nat, e = .returned (.int .i64 r0) ∧ Fit z (sepL (ob50 B0 q0 :: ob103 B1 q1 caq1_1 ccq1_2 caq1_3 ccq1_4 :: ro2 caq1_1 ccq1_2 q1.cell :: ro96 caq1_3 ccq1_4 q1.log :: L)) w := by
  unfold frames_Op_less_iface at H
  refine enter Try.func100 rfl 41 rfl rfl [(0, .pointer (some ⟨B0, 0, none⟩)), (1, .iface 26 (.pointer (some ⟨B1, 0, none⟩))), (2, .int .i64 p2)] ⟨rfl, rfl, rfl, trivial⟩ ?_
  intro j a hr
  refine wp_seq ?_
  refine wp_region_lit ?_
  refine ov hr (.int .i64 0) (by kernel_rfl) ?_; clear hr a; intro a hr
  refine wpList_nil ?_
  refine then_normal ?_
  refine wp_seq ?_
  replace H := bd1 H; obtain ⟨r5, e6, H⟩ := H
  replace H := bd3 H; obtain ⟨r7, r8, S9, e10, H⟩ := H
  refine reg_E (fun w => heldC w B0 0 [.int .i64 p0.head_t_Base, .int .i64 p0.head_t_Frames] ∧ heldC w B0 2 [.int .i64 p0.head_frame] ∧ True) [2, 3, 4, 7, 8, 9, 11, 12, 13] h (by kernel_rfl) ?_; intro w h
  change wpAnyE _ _ _ _ _ _ 21 (Array.replicate 21 false) a w
  have hgo : ∀ w w', CellsGo w w' → (heldC w B0 0 [.int .i64 p0.head_t_Base, .int .i64 p0.head_t_Frames] ∧ heldC w B0 2 [.int .i64 p0.head_frame] ∧ True) → heldC w' B0 0 [.int .i64 p0.head_t_Base, .int .i64 p0.head_t_Frames] ∧ heldC w' B0 2 [.int .i64 p0.head_frame] ∧ True := fun w w' g hD => ⟨heldC_go _ _ _ _ _ g hD.1, heldC_go _ _ _ _ _ g hD.2.1, trivial⟩
  refine ev 20 0 rfl (by kernel_rfl) (wn rfl) hr (.iface 26 (.pointer (some ⟨B1, 0, none⟩))) (fun w => by kernel_rfl) ?_; clear hr a; intro a hr
  refine ev 19 1 rfl (by kernel_rfl) (wn rfl) hr (.pointer (some ⟨B0, 0, none⟩)) (fun w => by kernel_rfl) ?_; clear hr a; intro a hr
  refine evD hgo ⟨⟨h.cell 0 rfl, h.cell 1 rfl, trivial⟩, ⟨h.cell 2 rfl, trivial⟩, trivial⟩ 18 2 rfl (by kernel_rfl) (wn rfl) hr (.pointer (some ⟨B0, 0, none⟩)) (fun w => by kernel_rfl) ?_; clear hr a; intro a hr
  refine evD hgo ⟨⟨h.cell 0 rfl, h.cell 1 rfl, trivial⟩, ⟨h.cell 2 rfl, trivial⟩, trivial⟩ 17 3 rfl (by kernel_rfl) (wn rfl) hr (.pointer (some ⟨B0, 0, none⟩)) (fun w => by kernel_rfl) ?_; clear hr a; intro a hr
  refine evD hgo ⟨⟨h.cell 0 rfl, h.cell 1 rfl, trivial⟩, ⟨h.cell 2 rfl, trivial⟩, trivial⟩ 16 4 rfl (by kernel_rfl) (wn rfl) hr (.pointer (some ⟨B0, 0, none⟩)) (fun w => by kernel_rfl) ?_; clear hr a; intro a hr
  refine ev 15 6 rfl (by kernel_rfl) (wn rfl) hr (.pointer (some ⟨B0, 0, none⟩)) (fun w => by kernel_rfl) ?_; clear hr a; intro a hr
  refine evD hgo ⟨⟨h.cell 0 rfl, h.cell 1 rfl, trivial⟩, ⟨h.cell 2 rfl, trivial⟩, trivial⟩ 14 7 rfl (by kernel_rfl) (wn rfl) hr (.pointer (some ⟨B0, 0, none⟩)) (fun w => by kernel_rfl) ?_; clear hr a; intro a hr
  refine evD hgo ⟨⟨h.cell 0 rfl, h.cell 1 rfl, trivial⟩, ⟨h.cell 2 rfl, trivial⟩, trivial⟩ 13 8 rfl (by kernel_rfl) (wn rfl) hr (.pointer (some ⟨B0, 0, none⟩)) (fun w => by kernel_rfl) ?_; clear hr a; intro a hr
  refine evD hgo ⟨⟨h.cell 0 rfl, h.cell 1 rfl, trivial⟩, ⟨h.cell 2 rfl, trivial⟩, trivial⟩ 12 9 rfl (by kernel_rfl) (wn rfl) hr (.pointer (some ⟨B0, 2, none⟩)) (fun w => by kernel_rfl) ?_; clear hr a; intro a hr
  refine evD hgo ⟨⟨h.cell 0 rfl, h.cell 1 rfl, trivial⟩, ⟨h.cell 2 rfl, trivial⟩, trivial⟩ 11 12 rfl (by kernel_rfl) (wn rfl) hr (.func (.method "Add") #[.iface 26 (.pointer (some ⟨B1, 0, none⟩))] #[]) (fun w => by kernel_rfl) ?_; clear hr a; intro a hr
  refine evD hgo ⟨⟨h.cell 0 rfl, h.cell 1 rfl, trivial⟩, ⟨h.cell 2 rfl, trivial⟩, trivial⟩ 10 13 rfl (by kernel_rfl) (wn rfl) hr (.func (.method "Add") #[.iface 26 (.pointer (some ⟨B1, 0, none⟩))] #[]) (fun w => by kernel_rfl) ?_; clear hr a; intro a hr
  refine ev 9 14 rfl (by kernel_rfl) (wn rfl) hr (.iface 26 (.pointer (some ⟨B1, 0, none⟩))) (fun w => by kernel_rfl) ?_; clear hr a; intro a hr
  refine el [2, 3, 4, 7, 8, 9, 11, 12, 13] (b := B0) (off := 0) (cs := [.int .i64 p0.head_t_Base, .int .i64 p0.head_t_Frames]) (fun _ hk => ⟨hk, fun w hD => hD.1⟩) 8 5 rfl (by kernel_rfl) (wn rfl) hr (.agg #[.int .i64 p0.head_t_Base, .int .i64 p0.head_t_Frames]) ⟨h.cell 0 rfl, h.cell 1 rfl, trivial⟩ (fun w hc => rlm (cs := [.int .i64 p0.head_t_Base, .int .i64 p0.head_t_Frames]) rfl (by kernel_rfl) (by kernel_rfl) (by kernel_rfl) hc) ?_; clear hr a; intro a hr
  refine el [2, 3, 4, 7, 8, 9, 11, 12, 13] (b := B0) (off := 2) (cs := [.int .i64 p0.head_frame]) (fun _ hk => ⟨hk, fun w hD => hD.2.1⟩) 7 10 rfl (by kernel_rfl) (wn rfl) hr (.int .i64 p0.head_frame) ⟨h.cell 2 rfl, trivial⟩ (fun w hc => rl rfl (by kernel_rfl) (by kernel_rfl) hc.1) ?_; clear hr a; intro a hr
  refine e_one (fuel := 6) (i := 11) (by kernel_rfl) rfl ?_
  have hc := frames_Table__join_ok (H := e6) (h := h)
  refine op_call (wn rfl) rfl rfl hr (f := 54) (args := #[.agg #[.int .i64 p0.head_t_Base, .int .i64 p0.head_t_Frames], .int .i64 p0.head_frame]) (by kernel_rfl) hc ?_; clear hc h
  rintro _ w ⟨rfl, h⟩; refine ⟨_, rfl, ?_⟩
  clear hr a; intro a hr
  refine wpList_nil ?_; refine then_normal ?_
  refine ⟨fun _ => ⟨⟨h.cell 0 rfl, h.cell 1 rfl, trivial⟩, ⟨h.cell 2 rfl, trivial⟩, trivial⟩, ?_⟩
  refine e_one (fuel := 5) (i := 15) (by kernel_rfl) rfl ?_
  replace h : Fit z (sepL (ob103 B1 p1 ca1 cc2 ca3 cc4 :: ro2 ca1 cc2 p1.cell :: ro96 ca3 cc4 p1.log :: ob50 B0 p0 :: L)) _ := h.sel 4 [1, 2, 3, 0] (by kernel_rfl) (by kernel_rfl)
  have hc := cells_Arena_Add_ok (H := e10) (h := h)
  refine op_call (wn rfl) rfl rfl hr (f := 122) (args := #[.pointer (some ⟨B1, 0, none⟩), .int .i64 r5, .int .i64 (-1)]) (by kernel_rfl) hc ?_; clear hc h
  rintro _ w ⟨caq11, ccq12, caq13, ccq14, rfl, h⟩; refine ⟨_, rfl, ?_⟩
  clear hr a; intro a hr
  refine wpList_nil ?_; refine then_normal ?_
  refine ⟨fun hE => absurd hE (by decide), ?_⟩
  refine ev 4 16 rfl (by kernel_rfl) (wn rfl) hr (.tuple #[.int .i64 r7, .int .i64 r8]) (fun w => by kernel_rfl) ?_; clear hr a; intro a hr
  refine ev 3 17 rfl (by kernel_rfl) (wn rfl) hr (.int .i64 r7) (fun w => by kernel_rfl) ?_; clear hr a; intro a hr
  refine ev 2 18 rfl (by kernel_rfl) (wn rfl) hr (.int .i64 r8) (fun w => by kernel_rfl) ?_; clear hr a; intro a hr
  refine ev 1 19 rfl (by kernel_rfl) (wn rfl) hr (.int .i64 r7) (fun w => by kernel_rfl) ?_; clear hr a; intro a hr
  refine ev 0 20 rfl (by kernel_rfl) (wn rfl) hr (.int .i64 r8) (fun w => by kernel_rfl) ?_; clear hr a; intro a hr
  refine e_end (by kernel_rfl) ?_
  refine then_normal ?_
  refine wp_seq ?_
  refine wp_seq ?_
  refine wp_region_lit ?_
  refine ovs [28, 29, 30] [.int .i64 r8, .bool (r8 == (0 : Int)), .bool (r8 == (0 : Int))] hr ⟨rfl, rfl⟩ (by kernel_rfl) ?_; clear hr a; intro a hr
  by_cases c15 : r8 = (0 : Int)
  ·
    replace H := ifT c15 H
    refine op_val ((wg hr rfl rfl rfl (b' := (r8 == (0 : Int))) (by kernel_rfl)).trans (by rw [show (r8 == (0 : Int)) = true from (beq_iff_eq.mpr c15)]; rfl)) rfl rfl hr (v := .int .i64 r7) (by kernel_rfl) ?_; clear hr a; intro a hr
    refine op_val ((wg hr rfl rfl rfl (b' := (r8 == (0 : Int))) (by kernel_rfl)).trans (by rw [show (r8 == (0 : Int)) = true from (beq_iff_eq.mpr c15)]; rfl)) rfl rfl hr (v := .bool (r7 != (0 : Int))) (by kernel_rfl) ?_; clear hr a; intro a hr
    refine op_val (wn rfl) rfl rfl hr (v := .bool (r7 != (0 : Int))) (rp_t (b := (r8 == (0 : Int))) rfl (by kernel_rfl) (beq_iff_eq.mpr c15) (by kernel_rfl)) ?_; clear hr a; intro a hr
    refine wpList_nil ?_
    refine then_normal ?_
    by_cases c16 : r7 = (0 : Int)
    ·
      replace H := ifT c16 H
      refine cond_ff hr (b := (r7 != (0 : Int))) (bne_eq_false_iff_eq.mpr c16) ?_
      refine wp_skip ?_
      refine then_normal ?_
      refine wp_seq ?_
      refine wp_region_lit ?_
      refine ovs [40, 6] [.int .i64 r8, .int .i64 r8] hr ⟨rfl, rfl⟩ (by kernel_rfl) ?_; clear hr a; intro a hr
      refine wpList_nil ?_
      refine then_normal ?_
      refine wp_ret ?_
      refine end_ret1 (v := .int .i64 r8) rfl hr (by kernel_rfl) ?_
      replace h : Fit z (sepL (ob50 B0 p0 :: ob103 B1 S9 caq11 ccq12 caq13 ccq14 :: ro2 caq11 ccq12 S9.cell :: ro96 caq13 ccq14 S9.log :: L)) _ := h.sel 4 [3, 0, 1, 2] (by kernel_rfl) (by kernel_rfl)
      replace H := ej3 H; obtain ⟨rfl, rfl, rfl⟩ := H
      exact ⟨caq11, ccq12, caq13, ccq14, rfl, h⟩
    ·
      replace H := ifF c16 H
      refine cond_tt hr (b := (r7 != (0 : Int))) (bne_iff_ne.mpr c16) ?_
      refine wp_region_lit ?_
      replace H := bd1 H; obtain ⟨S17, e18, H⟩ := H
      refine ovs [34, 35, 36, 37, 38] [.pointer (some ⟨B0, 0, none⟩), .pointer (some ⟨B0, 0, none⟩), .pointer (some ⟨B0, 0, none⟩), .int .i64 p2, .int .i64 r7] hr ⟨rfl, rfl⟩ (by kernel_rfl) ?_; clear hr a; intro a hr
      replace h : Fit z (sepL (ob50 B0 p0 :: ob103 B1 S9 caq11 ccq12 caq13 ccq14 :: ro2 caq11 ccq12 S9.cell :: ro96 caq13 ccq14 S9.log :: L)) _ := h.sel 4 [3, 0, 1, 2] (by kernel_rfl) (by kernel_rfl)
      have hc := frames_head_end_ok (H := e18) (h := h)
      refine op_call (wn rfl) rfl rfl hr (f := 56) (args := #[.pointer (some ⟨B0, 0, none⟩), .int .i64 p2, .int .i64 r7]) (by kernel_rfl) hc ?_; clear hc h
      rintro _ w ⟨rfl, h⟩; refine ⟨_, rfl, ?_⟩
      clear hr a; intro a hr
      refine wpList_nil ?_
      refine then_normal ?_
      refine wp_seq ?_
      refine wp_region_lit ?_
      refine ovs [40, 6] [.int .i64 r8, .int .i64 r8] hr ⟨rfl, rfl⟩ (by kernel_rfl) ?_; clear hr a; intro a hr
      refine wpList_nil ?_
      refine then_normal ?_
      refine wp_ret ?_
      refine end_ret1 (v := .int .i64 r8) rfl hr (by kernel_rfl) ?_
      replace H := ej3 H; obtain ⟨rfl, rfl, rfl⟩ := H
      exact ⟨caq11, ccq12, caq13, ccq14, rfl, h⟩
  ·
    replace H := ifF c15 H
    refine op_off ((wg hr rfl rfl rfl (b' := (r8 == (0 : Int))) (by kernel_rfl)).trans (by rw [show (r8 == (0 : Int)) = false from (beq_eq_false_iff_ne.mpr c15)]; rfl)) rfl rfl hr ?_; clear hr a; intro a hr
    refine op_off ((wg hr rfl rfl rfl (b' := (r8 == (0 : Int))) (by kernel_rfl)).trans (by rw [show (r8 == (0 : Int)) = false from (beq_eq_false_iff_ne.mpr c15)]; rfl)) rfl rfl hr ?_; clear hr a; intro a hr
    refine op_val (wn rfl) rfl rfl hr (v := .bool false) (rp_f (b := (r8 == (0 : Int))) rfl (by kernel_rfl) (beq_eq_false_iff_ne.mpr c15) (by kernel_rfl)) ?_; clear hr a; intro a hr
    refine wpList_nil ?_
    refine then_normal ?_
    refine cond_ff hr (b := false) rfl ?_
    refine wp_skip ?_
    refine then_normal ?_
    refine wp_seq ?_
    refine wp_region_lit ?_
    refine ovs [40, 6] [.int .i64 r8, .int .i64 r8] hr ⟨rfl, rfl⟩ (by kernel_rfl) ?_; clear hr a; intro a hr
    refine wpList_nil ?_
    refine then_normal ?_
    refine wp_ret ?_
    refine end_ret1 (v := .int .i64 r8) rfl hr (by kernel_rfl) ?_
    replace h : Fit z (sepL (ob50 B0 p0 :: ob103 B1 S9 caq11 ccq12 caq13 ccq14 :: ro2 caq11 ccq12 S9.cell :: ro96 caq13 ccq14 S9.log :: L)) _ := h.sel 4 [3, 0, 1, 2] (by kernel_rfl) (by kernel_rfl)
    replace H := ej3 H; obtain ⟨rfl, rfl, rfl⟩ := H
    exact ⟨caq11, ccq12, caq13, ccq14, rfl, h⟩

/-- (*plunder/frames.Op).again -/
def frames_Op_again_iface (p0 : T_frames_Op) (p1 : T_cells_Arena) (p2 : Int) : Option (Int × T_frames_Op × T_cells_Arena) :=
  ob1 (frames_Table__join (⟨p0.head_t_Base, p0.head_t_Frames⟩ : T_frames_Table) p0.head_frame) (fun r5 => ob2 (cells_Arena_Store p1 r5 1) (fun r7 S8 => (if r7 = (0 : Int) then ob1 (frames_head_end p0 p2 0) (fun S15 => some (r7, S15, S8)) else some (r7, p0, S8))))
set_option maxRecDepth 100000 in
set_option maxHeartbeats 4000000 in
theorem frames_Op_again_iface_ok {z w : World} {L : List HProp} {p0 : T_frames_Op} {p1 : T_cells_Arena} {p2 : Int} {B0 : Nat} {B1 : Nat} {ca1 : Option Addr} {cc2 : Nat} {ca3 : Option Addr} {cc4 : Nat} {r0 : Int} {q0 : T_frames_Op} {q1 : T_cells_Arena} (H : frames_Op_again_iface p0 p1 p2 = some (r0, q0, q1)) (h : Fit z (sepL (ob50 B0 p0 :: ob103 B1 p1 ca1 cc2 ca3 cc4 :: ro2 ca1 cc2 p1.cell :: ro96 ca3 cc4 p1.log :: L)) w)  :
    Calls Try.prog 101 #[.pointer (some ⟨B0, 0, none⟩), .iface 26 (.pointer (some ⟨B1, 0, none⟩)), .int .i64 p2] w fun e w => ∃ caq1_1 : Option Addr, ∃ ccq1_2 : Nat, ∃ caq1_3 : Option Addr, ∃ ccq1_4 : Nat, e = .returned (.int .i64 r0) ∧ Fit z (sepL (ob50 B0 q0 :: ob103 B1 q1 caq1_1 ccq1_2 caq1_3 ccq1_4 :: ro2 caq1_1 ccq1_2 q1.cell :: ro96 caq1_3 ccq1_4 q1.log :: L)) w := by
  unfold frames_Op_again_iface at H
  refine enter Try.func101 rfl 32 rfl rfl [(0, .pointer (some ⟨B0, 0, none⟩)), (1, .iface 26 (.pointer (some ⟨B1, 0, none⟩))), (2, .int .i64 p2)] ⟨rfl, rfl, rfl, trivial⟩ ?_
  intro j a hr
  refine wp_seq ?_
  refine wp_region_lit ?_
  refine ov hr (.int .i64 0) (by kernel_rfl) ?_; clear hr a; intro a hr
  refine wpList_nil ?_
  refine then_normal ?_
  refine wp_seq ?_
  replace H := bd1 H; obtain ⟨r5, e6, H⟩ := H
  replace H := bd2 H; obtain ⟨r7, S8, e9, H⟩ := H
  refine reg_E (fun w => heldC w B0 0 [.int .i64 p0.head_t_Base, .int .i64 p0.head_t_Frames] ∧ heldC w B0 2 [.int .i64 p0.head_frame] ∧ True) [2, 3, 4, 7, 8, 9, 11, 12, 13] h (by kernel_rfl) ?_; intro w h
  change wpAnyE _ _ _ _ _ _ 17 (Array.replicate 17 false) a w
  have hgo : ∀ w w', CellsGo w w' → (heldC w B0 0 [.int .i64 p0.head_t_Base, .int .i64 p0.head_t_Frames] ∧ heldC w B0 2 [.int .i64 p0.head_frame] ∧ True) → heldC w' B0 0 [.int .i64 p0.head_t_Base, .int .i64 p0.head_t_Frames] ∧ heldC w' B0 2 [.int .i64 p0.head_frame] ∧ True := fun w w' g hD => ⟨heldC_go _ _ _ _ _ g hD.1, heldC_go _ _ _ _ _ g hD.2.1, trivial⟩
  refine ev 16 0 rfl (by kernel_rfl) (wn rfl) hr (.iface 26 (.pointer (some ⟨B1, 0, none⟩))) (fun w => by kernel_rfl) ?_; clear hr a; intro a hr
  refine ev 15 1 rfl (by kernel_rfl) (wn rfl) hr (.pointer (some ⟨B0, 0, none⟩)) (fun w => by kernel_rfl) ?_; clear hr a; intro a hr
  refine evD hgo ⟨⟨h.cell 0 rfl, h.cell 1 rfl, trivial⟩, ⟨h.cell 2 rfl, trivial⟩, trivial⟩ 14 2 rfl (by kernel_rfl) (wn rfl) hr (.pointer (some ⟨B0, 0, none⟩)) (fun w => by kernel_rfl) ?_; clear hr a; intro a hr
  refine evD hgo ⟨⟨h.cell 0 rfl, h.cell 1 rfl, trivial⟩, ⟨h.cell 2 rfl, trivial⟩, trivial⟩ 13 3 rfl (by kernel_rfl) (wn rfl) hr (.pointer (some ⟨B0, 0, none⟩)) (fun w => by kernel_rfl) ?_; clear hr a; intro a hr
  refine evD hgo ⟨⟨h.cell 0 rfl, h.cell 1 rfl, trivial⟩, ⟨h.cell 2 rfl, trivial⟩, trivial⟩ 12 4 rfl (by kernel_rfl) (wn rfl) hr (.pointer (some ⟨B0, 0, none⟩)) (fun w => by kernel_rfl) ?_; clear hr a; intro a hr
  refine ev 11 6 rfl (by kernel_rfl) (wn rfl) hr (.pointer (some ⟨B0, 0, none⟩)) (fun w => by kernel_rfl) ?_; clear hr a; intro a hr
  refine evD hgo ⟨⟨h.cell 0 rfl, h.cell 1 rfl, trivial⟩, ⟨h.cell 2 rfl, trivial⟩, trivial⟩ 10 7 rfl (by kernel_rfl) (wn rfl) hr (.pointer (some ⟨B0, 0, none⟩)) (fun w => by kernel_rfl) ?_; clear hr a; intro a hr
  refine evD hgo ⟨⟨h.cell 0 rfl, h.cell 1 rfl, trivial⟩, ⟨h.cell 2 rfl, trivial⟩, trivial⟩ 9 8 rfl (by kernel_rfl) (wn rfl) hr (.pointer (some ⟨B0, 0, none⟩)) (fun w => by kernel_rfl) ?_; clear hr a; intro a hr
  refine evD hgo ⟨⟨h.cell 0 rfl, h.cell 1 rfl, trivial⟩, ⟨h.cell 2 rfl, trivial⟩, trivial⟩ 8 9 rfl (by kernel_rfl) (wn rfl) hr (.pointer (some ⟨B0, 2, none⟩)) (fun w => by kernel_rfl) ?_; clear hr a; intro a hr
  refine evD hgo ⟨⟨h.cell 0 rfl, h.cell 1 rfl, trivial⟩, ⟨h.cell 2 rfl, trivial⟩, trivial⟩ 7 12 rfl (by kernel_rfl) (wn rfl) hr (.func (.method "Store") #[.iface 26 (.pointer (some ⟨B1, 0, none⟩))] #[]) (fun w => by kernel_rfl) ?_; clear hr a; intro a hr
  refine evD hgo ⟨⟨h.cell 0 rfl, h.cell 1 rfl, trivial⟩, ⟨h.cell 2 rfl, trivial⟩, trivial⟩ 6 13 rfl (by kernel_rfl) (wn rfl) hr (.func (.method "Store") #[.iface 26 (.pointer (some ⟨B1, 0, none⟩))] #[]) (fun w => by kernel_rfl) ?_; clear hr a; intro a hr
  refine ev 5 14 rfl (by kernel_rfl) (wn rfl) hr (.iface 26 (.pointer (some ⟨B1, 0, none⟩))) (fun w => by kernel_rfl) ?_; clear hr a; intro a hr
  refine el [2, 3, 4, 7, 8, 9, 11, 12, 13] (b := B0) (off := 0) (cs := [.int .i64 p0.head_t_Base, .int .i64 p0.head_t_Frames]) (fun _ hk => ⟨hk, fun w hD => hD.1⟩) 4 5 rfl (by kernel_rfl) (wn rfl) hr (.agg #[.int .i64 p0.head_t_Base, .int .i64 p0.head_t_Frames]) ⟨h.cell 0 rfl, h.cell 1 rfl, trivial⟩ (fun w hc => rlm (cs := [.int .i64 p0.head_t_Base, .int .i64 p0.head_t_Frames]) rfl (by kernel_rfl) (by kernel_rfl) (by kernel_rfl) hc) ?_; clear hr a; intro a hr
  refine el [2, 3, 4, 7, 8, 9, 11, 12, 13] (b := B0) (off := 2) (cs := [.int .i64 p0.head_frame]) (fun _ hk => ⟨hk, fun w hD => hD.2.1⟩) 3 10 rfl (by kernel_rfl) (wn rfl) hr (.int .i64 p0.head_frame) ⟨h.cell 2 rfl, trivial⟩ (fun w hc => rl rfl (by kernel_rfl) (by kernel_rfl) hc.1) ?_; clear hr a; intro a hr
  refine e_one (fuel := 2) (i := 11) (by kernel_rfl) rfl ?_
  have hc := frames_Table__join_ok (H := e6) (h := h)
  refine op_call (wn rfl) rfl rfl hr (f := 54) (args := #[.agg #[.int .i64 p0.head_t_Base, .int .i64 p0.head_t_Frames], .int .i64 p0.head_frame]) (by kernel_rfl) hc ?_; clear hc h
  rintro _ w ⟨rfl, h⟩; refine ⟨_, rfl, ?_⟩
  clear hr a; intro a hr
  refine wpList_nil ?_; refine then_normal ?_
  refine ⟨fun _ => ⟨⟨h.cell 0 rfl, h.cell 1 rfl, trivial⟩, ⟨h.cell 2 rfl, trivial⟩, trivial⟩, ?_⟩
  refine e_one (fuel := 1) (i := 15) (by kernel_rfl) rfl ?_
  replace h : Fit z (sepL (ob103 B1 p1 ca1 cc2 ca3 cc4 :: ro2 ca1 cc2 p1.cell :: ro96 ca3 cc4 p1.log :: ob50 B0 p0 :: L)) _ := h.sel 4 [1, 2, 3, 0] (by kernel_rfl) (by kernel_rfl)
  have hc := cells_Arena_Store_ok (H := e9) (h := h)
  refine op_call (wn rfl) rfl rfl hr (f := 125) (args := #[.pointer (some ⟨B1, 0, none⟩), .int .i64 r5, .int .i64 1]) (by kernel_rfl) hc ?_; clear hc h
  rintro _ w ⟨caq10, ccq11, caq12, ccq13, rfl, h⟩; refine ⟨_, rfl, ?_⟩
  clear hr a; intro a hr
  refine wpList_nil ?_; refine then_normal ?_
  refine ⟨fun hE => absurd hE (by decide), ?_⟩
  refine ev 0 16 rfl (by kernel_rfl) (wn rfl) hr (.int .i64 r7) (fun w => by kernel_rfl) ?_; clear hr a; intro a hr
  refine e_end (by kernel_rfl) ?_
  refine then_normal ?_
  refine wp_seq ?_
  refine wp_seq ?_
  refine wp_region_lit ?_
  refine ovs [24, 25] [.int .i64 r7, .bool (r7 == (0 : Int))] hr ⟨rfl, rfl⟩ (by kernel_rfl) ?_; clear hr a; intro a hr
  refine wpList_nil ?_
  refine then_normal ?_
  by_cases c14 : r7 = (0 : Int)
  ·
    replace H := ifT c14 H
    refine cond_tt hr (b := (r7 == (0 : Int))) (beq_iff_eq.mpr c14) ?_
    refine wp_region_lit ?_
    replace H := bd1 H; obtain ⟨S15, e16, H⟩ := H
    refine ovs [26, 27, 28, 29] [.pointer (some ⟨B0, 0, none⟩), .pointer (some ⟨B0, 0, none⟩), .pointer (some ⟨B0, 0, none⟩), .int .i64 p2] hr ⟨rfl, rfl⟩ (by kernel_rfl) ?_; clear hr a; intro a hr
    replace h : Fit z (sepL (ob50 B0 p0 :: ob103 B1 S8 caq10 ccq11 caq12 ccq13 :: ro2 caq10 ccq11 S8.cell :: ro96 caq12 ccq13 S8.log :: L)) _ := h.sel 4 [3, 0, 1, 2] (by kernel_rfl) (by kernel_rfl)
    have hc := frames_head_end_ok (H := e16) (h := h)
    refine op_call (wn rfl) rfl rfl hr (f := 56) (args := #[.pointer (some ⟨B0, 0, none⟩), .int .i64 p2, .int .i64 0]) (by kernel_rfl) hc ?_; clear hc h
    rintro _ w ⟨rfl, h⟩; refine ⟨_, rfl, ?_⟩
    clear hr a; intro a hr
    refine wpList_nil ?_
    refine then_normal ?_
    refine wp_seq ?_
    refine wp_region_lit ?_
    refine ovs [31, 6] [.int .i64 r7, .int .i64 r7] hr ⟨rfl, rfl⟩ (by kernel_rfl) ?_; clear hr a; intro a hr
    refine wpList_nil ?_
    refine then_normal ?_
    refine wp_ret ?_
    refine end_ret1 (v := .int .i64 r7) rfl hr (by kernel_rfl) ?_
    replace H := ej3 H; obtain ⟨rfl, rfl, rfl⟩ := H
    exact ⟨caq10, ccq11, caq12, ccq13, rfl, h⟩
  ·
    replace H := ifF c14 H
    refine cond_ff hr (b := (r7 == (0 : Int))) (beq_eq_false_iff_ne.mpr c14) ?_
    refine wp_skip ?_
    refine then_normal ?_
    refine wp_seq ?_
    refine wp_region_lit ?_
    refine ovs [31, 6] [.int .i64 r7, .int .i64 r7] hr ⟨rfl, rfl⟩ (by kernel_rfl) ?_; clear hr a; intro a hr
    refine wpList_nil ?_
    refine then_normal ?_
    refine wp_ret ?_
    refine end_ret1 (v := .int .i64 r7) rfl hr (by kernel_rfl) ?_
    replace h : Fit z (sepL (ob50 B0 p0 :: ob103 B1 S8 caq10 ccq11 caq12 ccq13 :: ro2 caq10 ccq11 S8.cell :: ro96 caq12 ccq13 S8.log :: L)) _ := h.sel 4 [3, 0, 1, 2] (by kernel_rfl) (by kernel_rfl)
    replace H := ej3 H; obtain ⟨rfl, rfl, rfl⟩ := H
    exact ⟨caq10, ccq11, caq12, ccq13, rfl, h⟩

/-- (*plunder/frames.Op).finish -/
def frames_Op_finish_iface (p0 : T_frames_Op) (p1 : T_cells_Arena) : Option (Int × T_frames_Op × T_cells_Arena) :=
  (if p0.head_stands = (1 : Int) then ob1 (frames_Table__slot (⟨p0.head_t_Base, p0.head_t_Frames⟩ : T_frames_Table) p0.head_frame p0.slot) (fun r6 => ob2 (cells_Arena_Store p1 r6 p0.give) (fun r8 S9 => some (r8, p0, S9))) else (if p0.head_stands = (2 : Int) then ob3 (frames_Op_less_iface p0 p1 10) (fun r16 S17 S18 => some (r16, S17, S18)) else ob3 (frames_Op_again_iface p0 p1 11) (fun r24 S25 S26 => some (r24, S25, S26))))
set_option maxRecDepth 100000 in
set_option maxHeartbeats 4000000 in
theorem frames_Op_finish_iface_ok {z w : World} {L : List HProp} {p0 : T_frames_Op} {p1 : T_cells_Arena} {B0 : Nat} {B1 : Nat} {ca1 : Option Addr} {cc2 : Nat} {ca3 : Option Addr} {cc4 : Nat} {r0 : Int} {q0 : T_frames_Op} {q1 : T_cells_Arena} (H : frames_Op_finish_iface p0 p1 = some (r0, q0, q1)) (h : Fit z (sepL (ob50 B0 p0 :: ob103 B1 p1 ca1 cc2 ca3 cc4 :: ro2 ca1 cc2 p1.cell :: ro96 ca3 cc4 p1.log :: L)) w)  :
    Calls Try.prog 83 #[.pointer (some ⟨B0, 0, none⟩), .iface 26 (.pointer (some ⟨B1, 0, none⟩))] w fun e w => ∃ caq1_1 : Option Addr, ∃ ccq1_2 : Nat, ∃ caq1_3 : Option Addr, ∃ ccq1_4 : Nat, e = .returned (.int .i64 r0) ∧ Fit z (sepL (ob50 B0 q0 :: ob103 B1 q1 caq1_1 ccq1_2 caq1_3 ccq1_4 :: ro2 caq1_1 ccq1_2 q1.cell :: ro96 caq1_3 ccq1_4 q1.log :: L)) w := by
  unfold frames_Op_finish_iface at H
  refine enter Try.func83 rfl 44 rfl rfl [(0, .pointer (some ⟨B0, 0, none⟩)), (1, .iface 26 (.pointer (some ⟨B1, 0, none⟩)))] ⟨rfl, rfl, trivial⟩ ?_
  intro j a hr
  refine wp_seq ?_
  refine wp_region_lit ?_
  refine ov hr (.int .i64 0) (by kernel_rfl) ?_; clear hr a; intro a hr
  refine wpList_nil ?_
  refine then_normal ?_
  refine wp_seq ?_
  refine wp_seq ?_
  refine wp_region_lit ?_
  refine ovs [5, 6, 7, 8] [.pointer (some ⟨B0, 0, none⟩), .pointer (some ⟨B0, 0, none⟩), .pointer (some ⟨B0, 0, none⟩), .pointer (some ⟨B0, 3, none⟩)] hr ⟨rfl, rfl⟩ (by kernel_rfl) ?_; clear hr a; intro a hr
  refine op_val (wn rfl) rfl rfl hr (v := .int .i64 p0.head_stands) (rl rfl (by kernel_rfl) (by kernel_rfl) (h.cell 3 rfl)) ?_; clear hr a; intro a hr
  refine wpList_nil ?_
  refine then_normal ?_
  refine wp_block ?_
  refine wp_seq ?_
  refine wp_region_lit ?_
  refine ovs [11, 10] [.bool (p0.head_stands == (1 : Int)), .bool (p0.head_stands == (1 : Int))] hr ⟨rfl, rfl⟩ (by kernel_rfl) ?_; clear hr a; intro a hr
  refine wpList_nil ?_
  refine then_normal ?_
  by_cases c5 : p0.head_stands = (1 : Int)
  ·
    replace H := ifT c5 H
    refine cond_tt hr (b := (p0.head_stands == (1 : Int))) (beq_iff_eq.mpr c5) ?_
    refine wp_seq ?_
    replace H := bd1 H; obtain ⟨r6, e7, H⟩ := H
    replace H := bd2 H; obtain ⟨r8, S9, e10, H⟩ := H
    refine reg_E (fun w => heldC w B0 0 [.int .i64 p0.head_t_Base, .int .i64 p0.head_t_Frames] ∧ heldC w B0 2 [.int .i64 p0.head_frame] ∧ heldC w B0 7 [.int .i64 p0.slot] ∧ heldC w B0 8 [.int .i64 p0.give] ∧ True) [2, 3, 4, 7, 8, 9, 12, 13, 15, 17, 18, 20, 21] h (by kernel_rfl) ?_; intro w h
    change wpAnyE _ _ _ _ _ _ 25 (Array.replicate 25 false) a w
    have hgo : ∀ w w', CellsGo w w' → (heldC w B0 0 [.int .i64 p0.head_t_Base, .int .i64 p0.head_t_Frames] ∧ heldC w B0 2 [.int .i64 p0.head_frame] ∧ heldC w B0 7 [.int .i64 p0.slot] ∧ heldC w B0 8 [.int .i64 p0.give] ∧ True) → heldC w' B0 0 [.int .i64 p0.head_t_Base, .int .i64 p0.head_t_Frames] ∧ heldC w' B0 2 [.int .i64 p0.head_frame] ∧ heldC w' B0 7 [.int .i64 p0.slot] ∧ heldC w' B0 8 [.int .i64 p0.give] ∧ True := fun w w' g hD => ⟨heldC_go _ _ _ _ _ g hD.1, heldC_go _ _ _ _ _ g hD.2.1, heldC_go _ _ _ _ _ g hD.2.2.1, heldC_go _ _ _ _ _ g hD.2.2.2.1, trivial⟩
    refine ev 24 0 rfl (by kernel_rfl) (wn rfl) hr (.iface 26 (.pointer (some ⟨B1, 0, none⟩))) (fun w => by kernel_rfl) ?_; clear hr a; intro a hr
    refine ev 23 1 rfl (by kernel_rfl) (wn rfl) hr (.pointer (some ⟨B0, 0, none⟩)) (fun w => by kernel_rfl) ?_; clear hr a; intro a hr
    refine evD hgo ⟨⟨h.cell 0 rfl, h.cell 1 rfl, trivial⟩, ⟨h.cell 2 rfl, trivial⟩, ⟨h.cell 7 rfl, trivial⟩, ⟨h.cell 8 rfl, trivial⟩, trivial⟩ 22 2 rfl (by kernel_rfl) (wn rfl) hr (.pointer (some ⟨B0, 0, none⟩)) (fun w => by kernel_rfl) ?_; clear hr a; intro a hr
    refine evD hgo ⟨⟨h.cell 0 rfl, h.cell 1 rfl, trivial⟩, ⟨h.cell 2 rfl, trivial⟩, ⟨h.cell 7 rfl, trivial⟩, ⟨h.cell 8 rfl, trivial⟩, trivial⟩ 21 3 rfl (by kernel_rfl) (wn rfl) hr (.pointer (some ⟨B0, 0, none⟩)) (fun w => by kernel_rfl) ?_; clear hr a; intro a hr
    refine evD hgo ⟨⟨h.cell 0 rfl, h.cell 1 rfl, trivial⟩, ⟨h.cell 2 rfl, trivial⟩, ⟨h.cell 7 rfl, trivial⟩, ⟨h.cell 8 rfl, trivial⟩, trivial⟩ 20 4 rfl (by kernel_rfl) (wn rfl) hr (.pointer (some ⟨B0, 0, none⟩)) (fun w => by kernel_rfl) ?_; clear hr a; intro a hr
    refine ev 19 6 rfl (by kernel_rfl) (wn rfl) hr (.pointer (some ⟨B0, 0, none⟩)) (fun w => by kernel_rfl) ?_; clear hr a; intro a hr
    refine evD hgo ⟨⟨h.cell 0 rfl, h.cell 1 rfl, trivial⟩, ⟨h.cell 2 rfl, trivial⟩, ⟨h.cell 7 rfl, trivial⟩, ⟨h.cell 8 rfl, trivial⟩, trivial⟩ 18 7 rfl (by kernel_rfl) (wn rfl) hr (.pointer (some ⟨B0, 0, none⟩)) (fun w => by kernel_rfl) ?_; clear hr a; intro a hr
    refine evD hgo ⟨⟨h.cell 0 rfl, h.cell 1 rfl, trivial⟩, ⟨h.cell 2 rfl, trivial⟩, ⟨h.cell 7 rfl, trivial⟩, ⟨h.cell 8 rfl, trivial⟩, trivial⟩ 17 8 rfl (by kernel_rfl) (wn rfl) hr (.pointer (some ⟨B0, 0, none⟩)) (fun w => by kernel_rfl) ?_; clear hr a; intro a hr
    refine evD hgo ⟨⟨h.cell 0 rfl, h.cell 1 rfl, trivial⟩, ⟨h.cell 2 rfl, trivial⟩, ⟨h.cell 7 rfl, trivial⟩, ⟨h.cell 8 rfl, trivial⟩, trivial⟩ 16 9 rfl (by kernel_rfl) (wn rfl) hr (.pointer (some ⟨B0, 2, none⟩)) (fun w => by kernel_rfl) ?_; clear hr a; intro a hr
    refine ev 15 11 rfl (by kernel_rfl) (wn rfl) hr (.pointer (some ⟨B0, 0, none⟩)) (fun w => by kernel_rfl) ?_; clear hr a; intro a hr
    refine evD hgo ⟨⟨h.cell 0 rfl, h.cell 1 rfl, trivial⟩, ⟨h.cell 2 rfl, trivial⟩, ⟨h.cell 7 rfl, trivial⟩, ⟨h.cell 8 rfl, trivial⟩, trivial⟩ 14 12 rfl (by kernel_rfl) (wn rfl) hr (.pointer (some ⟨B0, 0, none⟩)) (fun w => by kernel_rfl) ?_; clear hr a; intro a hr
    refine evD hgo ⟨⟨h.cell 0 rfl, h.cell 1 rfl, trivial⟩, ⟨h.cell 2 rfl, trivial⟩, ⟨h.cell 7 rfl, trivial⟩, ⟨h.cell 8 rfl, trivial⟩, trivial⟩ 13 13 rfl (by kernel_rfl) (wn rfl) hr (.pointer (some ⟨B0, 7, none⟩)) (fun w => by kernel_rfl) ?_; clear hr a; intro a hr
    refine ev 12 16 rfl (by kernel_rfl) (wn rfl) hr (.pointer (some ⟨B0, 0, none⟩)) (fun w => by kernel_rfl) ?_; clear hr a; intro a hr
    refine evD hgo ⟨⟨h.cell 0 rfl, h.cell 1 rfl, trivial⟩, ⟨h.cell 2 rfl, trivial⟩, ⟨h.cell 7 rfl, trivial⟩, ⟨h.cell 8 rfl, trivial⟩, trivial⟩ 11 17 rfl (by kernel_rfl) (wn rfl) hr (.pointer (some ⟨B0, 0, none⟩)) (fun w => by kernel_rfl) ?_; clear hr a; intro a hr
    refine evD hgo ⟨⟨h.cell 0 rfl, h.cell 1 rfl, trivial⟩, ⟨h.cell 2 rfl, trivial⟩, ⟨h.cell 7 rfl, trivial⟩, ⟨h.cell 8 rfl, trivial⟩, trivial⟩ 10 18 rfl (by kernel_rfl) (wn rfl) hr (.pointer (some ⟨B0, 8, none⟩)) (fun w => by kernel_rfl) ?_; clear hr a; intro a hr
    refine evD hgo ⟨⟨h.cell 0 rfl, h.cell 1 rfl, trivial⟩, ⟨h.cell 2 rfl, trivial⟩, ⟨h.cell 7 rfl, trivial⟩, ⟨h.cell 8 rfl, trivial⟩, trivial⟩ 9 20 rfl (by kernel_rfl) (wn rfl) hr (.func (.method "Store") #[.iface 26 (.pointer (some ⟨B1, 0, none⟩))] #[]) (fun w => by kernel_rfl) ?_; clear hr a; intro a hr
    refine evD hgo ⟨⟨h.cell 0 rfl, h.cell 1 rfl, trivial⟩, ⟨h.cell 2 rfl, trivial⟩, ⟨h.cell 7 rfl, trivial⟩, ⟨h.cell 8 rfl, trivial⟩, trivial⟩ 8 21 rfl (by kernel_rfl) (wn rfl) hr (.func (.method "Store") #[.iface 26 (.pointer (some ⟨B1, 0, none⟩))] #[]) (fun w => by kernel_rfl) ?_; clear hr a; intro a hr
    refine ev 7 22 rfl (by kernel_rfl) (wn rfl) hr (.iface 26 (.pointer (some ⟨B1, 0, none⟩))) (fun w => by kernel_rfl) ?_; clear hr a; intro a hr
    refine el [2, 3, 4, 7, 8, 9, 12, 13, 15, 17, 18, 20, 21] (b := B0) (off := 0) (cs := [.int .i64 p0.head_t_Base, .int .i64 p0.head_t_Frames]) (fun _ hk => ⟨hk, fun w hD => hD.1⟩) 6 5 rfl (by kernel_rfl) (wn rfl) hr (.agg #[.int .i64 p0.head_t_Base, .int .i64 p0.head_t_Frames]) ⟨h.cell 0 rfl, h.cell 1 rfl, trivial⟩ (fun w hc => rlm (cs := [.int .i64 p0.head_t_Base, .int .i64 p0.head_t_Frames]) rfl (by kernel_rfl) (by kernel_rfl) (by kernel_rfl) hc) ?_; clear hr a; intro a hr
    refine el [2, 3, 4, 7, 8, 9, 12, 13, 15, 17, 18, 20, 21] (b := B0) (off := 2) (cs := [.int .i64 p0.head_frame]) (fun _ hk => ⟨hk, fun w hD => hD.2.1⟩) 5 10 rfl (by kernel_rfl) (wn rfl) hr (.int .i64 p0.head_frame) ⟨h.cell 2 rfl, trivial⟩ (fun w hc => rl rfl (by kernel_rfl) (by kernel_rfl) hc.1) ?_; clear hr a; intro a hr
    refine el [2, 3, 4, 7, 8, 9, 12, 13, 15, 17, 18, 20, 21] (b := B0) (off := 7) (cs := [.int .i64 p0.slot]) (fun _ hk => ⟨hk, fun w hD => hD.2.2.1⟩) 4 14 rfl (by kernel_rfl) (wn rfl) hr (.int .i64 p0.slot) ⟨h.cell 7 rfl, trivial⟩ (fun w hc => rl rfl (by kernel_rfl) (by kernel_rfl) hc.1) ?_; clear hr a; intro a hr
    refine el [2, 3, 4, 7, 8, 9, 12, 13, 15, 17, 18, 20, 21] (b := B0) (off := 8) (cs := [.int .i64 p0.give]) (fun _ hk => ⟨hk, fun w hD => hD.2.2.2.1⟩) 3 19 rfl (by kernel_rfl) (wn rfl) hr (.int .i64 p0.give) ⟨h.cell 8 rfl, trivial⟩ (fun w hc => rl rfl (by kernel_rfl) (by kernel_rfl) hc.1) ?_; clear hr a; intro a hr
    refine e_one (fuel := 2) (i := 15) (by kernel_rfl) rfl ?_
    have hc := frames_Table__slot_ok (H := e7) (h := h)
    refine op_call (wn rfl) rfl rfl hr (f := 99) (args := #[.agg #[.int .i64 p0.head_t_Base, .int .i64 p0.head_t_Frames], .int .i64 p0.head_frame, .int .i64 p0.slot]) (by kernel_rfl) hc ?_; clear hc h
    rintro _ w ⟨rfl, h⟩; refine ⟨_, rfl, ?_⟩
    clear hr a; intro a hr
    refine wpList_nil ?_; refine then_normal ?_
    refine ⟨fun _ => ⟨⟨h.cell 0 rfl, h.cell 1 rfl, trivial⟩, ⟨h.cell 2 rfl, trivial⟩, ⟨h.cell 7 rfl, trivial⟩, ⟨h.cell 8 rfl, trivial⟩, trivial⟩, ?_⟩
    refine e_one (fuel := 1) (i := 23) (by kernel_rfl) rfl ?_
    replace h : Fit z (sepL (ob103 B1 p1 ca1 cc2 ca3 cc4 :: ro2 ca1 cc2 p1.cell :: ro96 ca3 cc4 p1.log :: ob50 B0 p0 :: L)) _ := h.sel 4 [1, 2, 3, 0] (by kernel_rfl) (by kernel_rfl)
    have hc := cells_Arena_Store_ok (H := e10) (h := h)
    refine op_call (wn rfl) rfl rfl hr (f := 125) (args := #[.pointer (some ⟨B1, 0, none⟩), .int .i64 r6, .int .i64 p0.give]) (by kernel_rfl) hc ?_; clear hc h
    rintro _ w ⟨caq11, ccq12, caq13, ccq14, rfl, h⟩; refine ⟨_, rfl, ?_⟩
    clear hr a; intro a hr
    refine wpList_nil ?_; refine then_normal ?_
    refine ⟨fun hE => absurd hE (by decide), ?_⟩
    refine ev 0 24 rfl (by kernel_rfl) (wn rfl) hr (.int .i64 r8) (fun w => by kernel_rfl) ?_; clear hr a; intro a hr
    refine e_end (by kernel_rfl) ?_
    refine then_normal ?_
    refine wp_ret ?_
    refine blk_ret ?_
    refine then_ret ?_
    refine end_ret1 (v := .int .i64 r8) rfl hr (by kernel_rfl) ?_
    replace h : Fit z (sepL (ob50 B0 p0 :: ob103 B1 S9 caq11 ccq12 caq13 ccq14 :: ro2 caq11 ccq12 S9.cell :: ro96 caq13 ccq14 S9.log :: L)) _ := h.sel 4 [3, 0, 1, 2] (by kernel_rfl) (by kernel_rfl)
    replace H := ej3 H; obtain ⟨rfl, rfl, rfl⟩ := H
    exact ⟨caq11, ccq12, caq13, ccq14, rfl, h⟩
  ·
    replace H := ifF c5 H
    refine cond_ff hr (b := (p0.head_stands == (1 : Int))) (beq_eq_false_iff_ne.mpr c5) ?_
    refine wp_seq ?_
    refine wp_region_lit ?_
    refine ovs [37, 36] [.bool (p0.head_stands == (2 : Int)), .bool (p0.head_stands == (2 : Int))] hr ⟨rfl, rfl⟩ (by kernel_rfl) ?_; clear hr a; intro a hr
    refine wpList_nil ?_
    refine then_normal ?_
    by_cases c15 : p0.head_stands = (2 : Int)
    ·
      replace H := ifT c15 H
      refine cond_tt hr (b := (p0.head_stands == (2 : Int))) (beq_iff_eq.mpr c15) ?_
      refine wp_seq ?_
      refine wp_region_lit ?_
      replace H := bd3 H; obtain ⟨r16, S17, S18, e19, H⟩ := H
      refine ovs [38, 39] [.pointer (some ⟨B0, 0, none⟩), .iface 26 (.pointer (some ⟨B1, 0, none⟩))] hr ⟨rfl, rfl⟩ (by kernel_rfl) ?_; clear hr a; intro a hr
      have hc := frames_Op_less_iface_ok (H := e19) (h := h)
      refine op_call (wn rfl) rfl rfl hr (f := 100) (args := #[.pointer (some ⟨B0, 0, none⟩), .iface 26 (.pointer (some ⟨B1, 0, none⟩)), .int .i64 10]) (by kernel_rfl) hc ?_; clear hc h
      rintro _ w ⟨caq20, ccq21, caq22, ccq23, rfl, h⟩; refine ⟨_, rfl, ?_⟩
      clear hr a; intro a hr
      refine ov hr (.int .i64 r16) (by kernel_rfl) ?_; clear hr a; intro a hr
      refine wpList_nil ?_
      refine then_normal ?_
      refine wp_ret ?_
      refine blk_ret ?_
      refine then_ret ?_
      refine end_ret1 (v := .int .i64 r16) rfl hr (by kernel_rfl) ?_
      replace H := ej3 H; obtain ⟨rfl, rfl, rfl⟩ := H
      exact ⟨caq20, ccq21, caq22, ccq23, rfl, h⟩
    ·
      replace H := ifF c15 H
      refine cond_ff hr (b := (p0.head_stands == (2 : Int))) (beq_eq_false_iff_ne.mpr c15) ?_
      refine wp_skip ?_
      refine blk_normal ?_
      refine then_normal ?_
      refine wp_seq ?_
      refine wp_region_lit ?_
      replace H := bd3 H; obtain ⟨r24, S25, S26, e27, H⟩ := H
      refine ovs [41, 42] [.pointer (some ⟨B0, 0, none⟩), .iface 26 (.pointer (some ⟨B1, 0, none⟩))] hr ⟨rfl, rfl⟩ (by kernel_rfl) ?_; clear hr a; intro a hr
      have hc := frames_Op_again_iface_ok (H := e27) (h := h)
      refine op_call (wn rfl) rfl rfl hr (f := 101) (args := #[.pointer (some ⟨B0, 0, none⟩), .iface 26 (.pointer (some ⟨B1, 0, none⟩)), .int .i64 11]) (by kernel_rfl) hc ?_; clear hc h
      rintro _ w ⟨caq28, ccq29, caq30, ccq31, rfl, h⟩; refine ⟨_, rfl, ?_⟩
      clear hr a; intro a hr
      refine ov hr (.int .i64 r24) (by kernel_rfl) ?_; clear hr a; intro a hr
      refine wpList_nil ?_
      refine then_normal ?_
      refine wp_ret ?_
      refine end_ret1 (v := .int .i64 r24) rfl hr (by kernel_rfl) ?_
      replace H := ej3 H; obtain ⟨rfl, rfl, rfl⟩ := H
      exact ⟨caq28, ccq29, caq30, ccq31, rfl, h⟩

/-- (*plunder/frames.Op).sync -/
def frames_Op_sync_iface (p0 : T_frames_Op) (p1 : T_cells_Arena) : Option (Int × T_frames_Op × T_cells_Arena) :=
  (if p0.head_stands = (1 : Int) then ob3 (frames_Op_less_iface p0 p1 12) (fun r6 S7 S8 => some (r6, S7, S8)) else ob3 (frames_Op_again_iface p0 p1 13) (fun r14 S15 S16 => some (r14, S15, S16)))
set_option maxRecDepth 100000 in
set_option maxHeartbeats 4000000 in
theorem frames_Op_sync_iface_ok {z w : World} {L : List HProp} {p0 : T_frames_Op} {p1 : T_cells_Arena} {B0 : Nat} {B1 : Nat} {ca1 : Option Addr} {cc2 : Nat} {ca3 : Option Addr} {cc4 : Nat} {r0 : Int} {q0 : T_frames_Op} {q1 : T_cells_Arena} (H : frames_Op_sync_iface p0 p1 = some (r0, q0, q1)) (h : Fit z (sepL (ob50 B0 p0 :: ob103 B1 p1 ca1 cc2 ca3 cc4 :: ro2 ca1 cc2 p1.cell :: ro96 ca3 cc4 p1.log :: L)) w)  :
    Calls Try.prog 84 #[.pointer (some ⟨B0, 0, none⟩), .iface 26 (.pointer (some ⟨B1, 0, none⟩))] w fun e w => ∃ caq1_1 : Option Addr, ∃ ccq1_2 : Nat, ∃ caq1_3 : Option Addr, ∃ ccq1_4 : Nat, e = .returned (.int .i64 r0) ∧ Fit z (sepL (ob50 B0 q0 :: ob103 B1 q1 caq1_1 ccq1_2 caq1_3 ccq1_4 :: ro2 caq1_1 ccq1_2 q1.cell :: ro96 caq1_3 ccq1_4 q1.log :: L)) w := by
  unfold frames_Op_sync_iface at H
  refine enter Try.func84 rfl 17 rfl rfl [(0, .pointer (some ⟨B0, 0, none⟩)), (1, .iface 26 (.pointer (some ⟨B1, 0, none⟩)))] ⟨rfl, rfl, trivial⟩ ?_
  intro j a hr
  refine wp_seq ?_
  refine wp_region_lit ?_
  refine ov hr (.int .i64 0) (by kernel_rfl) ?_; clear hr a; intro a hr
  refine wpList_nil ?_
  refine then_normal ?_
  refine wp_seq ?_
  refine wp_seq ?_
  refine wp_region_lit ?_
  refine ovs [5, 6, 7, 8] [.pointer (some ⟨B0, 0, none⟩), .pointer (some ⟨B0, 0, none⟩), .pointer (some ⟨B0, 0, none⟩), .pointer (some ⟨B0, 3, none⟩)] hr ⟨rfl, rfl⟩ (by kernel_rfl) ?_; clear hr a; intro a hr
  refine op_val (wn rfl) rfl rfl hr (v := .int .i64 p0.head_stands) (rl rfl (by kernel_rfl) (by kernel_rfl) (h.cell 3 rfl)) ?_; clear hr a; intro a hr
  refine ov hr (.bool (p0.head_stands == (1 : Int))) (by kernel_rfl) ?_; clear hr a; intro a hr
  refine wpList_nil ?_
  refine then_normal ?_
  by_cases c5 : p0.head_stands = (1 : Int)
  ·
    replace H := ifT c5 H
    refine cond_tt hr (b := (p0.head_stands == (1 : Int))) (beq_iff_eq.mpr c5) ?_
    refine wp_seq ?_
    refine wp_region_lit ?_
    replace H := bd3 H; obtain ⟨r6, S7, S8, e9, H⟩ := H
    refine ovs [11, 12] [.pointer (some ⟨B0, 0, none⟩), .iface 26 (.pointer (some ⟨B1, 0, none⟩))] hr ⟨rfl, rfl⟩ (by kernel_rfl) ?_; clear hr a; intro a hr
    have hc := frames_Op_less_iface_ok (H := e9) (h := h)
    refine op_call (wn rfl) rfl rfl hr (f := 100) (args := #[.pointer (some ⟨B0, 0, none⟩), .iface 26 (.pointer (some ⟨B1, 0, none⟩)), .int .i64 12]) (by kernel_rfl) hc ?_; clear hc h
    rintro _ w ⟨caq10, ccq11, caq12, ccq13, rfl, h⟩; refine ⟨_, rfl, ?_⟩
    clear hr a; intro a hr
    refine ov hr (.int .i64 r6) (by kernel_rfl) ?_; clear hr a; intro a hr
    refine wpList_nil ?_
    refine then_normal ?_
    refine wp_ret ?_
    refine then_ret ?_
    refine end_ret1 (v := .int .i64 r6) rfl hr (by kernel_rfl) ?_
    replace H := ej3 H; obtain ⟨rfl, rfl, rfl⟩ := H
    exact ⟨caq10, ccq11, caq12, ccq13, rfl, h⟩
  ·
    replace H := ifF c5 H
    refine cond_ff hr (b := (p0.head_stands == (1 : Int))) (beq_eq_false_iff_ne.mpr c5) ?_
    refine wp_skip ?_
    refine then_normal ?_
    refine wp_seq ?_
    refine wp_region_lit ?_
    replace H := bd3 H; obtain ⟨r14, S15, S16, e17, H⟩ := H
    refine ovs [14, 15] [.pointer (some ⟨B0, 0, none⟩), .iface 26 (.pointer (some ⟨B1, 0, none⟩))] hr ⟨rfl, rfl⟩ (by kernel_rfl) ?_; clear hr a; intro a hr
    have hc := frames_Op_again_iface_ok (H := e17) (h := h)
    refine op_call (wn rfl) rfl rfl hr (f := 101) (args := #[.pointer (some ⟨B0, 0, none⟩), .iface 26 (.pointer (some ⟨B1, 0, none⟩)), .int .i64 13]) (by kernel_rfl) hc ?_; clear hc h
    rintro _ w ⟨caq18, ccq19, caq20, ccq21, rfl, h⟩; refine ⟨_, rfl, ?_⟩
    clear hr a; intro a hr
    refine ov hr (.int .i64 r14) (by kernel_rfl) ?_; clear hr a; intro a hr
    refine wpList_nil ?_
    refine then_normal ?_
    refine wp_ret ?_
    refine end_ret1 (v := .int .i64 r14) rfl hr (by kernel_rfl) ?_
    replace H := ej3 H; obtain ⟨rfl, rfl, rfl⟩ := H
    exact ⟨caq18, ccq19, caq20, ccq21, rfl, h⟩


end Go.Proofs.Ytnghahgfcaolbaa.Mo
