/- what the functions compute, as plain Lean functions, and that they do -/
import Derived.Test.YtacgigkonoegiaaMv0
namespace Go.Proofs.Ytacgigkonoegiaa.Mo
open Go Go.RowKit Go.Proofs.Ytacgigkonoegiaa.SL Go.Proofs.Ytacgigkonoegiaa.GX
set_option linter.unusedVariables false
set_option linter.unusedSimpArgs false

/-- plunder/plunderref2.New -/
def plunderref2_New (p0 : Int) : Option (T_plunderref2_Arena × Int) :=
  (if p0 < (0 : Int) then some ((⟨0, ([] : List Int), false, 0, ([] : List T_api_Access)⟩ : T_plunderref2_Arena), 3) else (if p0 > (1048576 : Int) then some ((⟨0, ([] : List Int), false, 0, ([] : List T_api_Access)⟩ : T_plunderref2_Arena), 3) else some ((⟨p0, ([] : List Int), false, 0, ([] : List T_api_Access)⟩ : T_plunderref2_Arena), 0)))
set_option maxRecDepth 100000 in
set_option maxHeartbeats 4000000 in
theorem plunderref2_New_ok {z w : World} {L : List HProp} {p0 : Int} {r0 : T_plunderref2_Arena} {r1 : Int} (H : plunderref2_New p0 = some (r0, r1)) (h : Fit z (sepL (L)) w)  :
    Calls Try.prog 27 #[.int .i64 p0] w fun e w => ∃ Bn0 : Nat, ∃ car0_1 : Option Addr, ∃ ccr0_2 : Nat, ∃ car0_3 : Option Addr, ∃ ccr0_4 : Nat, e = .returned (.tuple #[.pointer (some ⟨Bn0, 0, none⟩), .int .i64 r1]) ∧ Fit z (sepL (ob62 Bn0 r0 car0_1 ccr0_2 car0_3 ccr0_4 :: ro2 car0_1 ccr0_2 r0.Held :: ro90 car0_3 ccr0_4 r0.Book :: L)) w := by
  unfold plunderref2_New at H
  refine enter Try.func27 rfl 15 rfl rfl [(0, .int .i64 p0)] ⟨rfl, trivial⟩ ?_
  intro j a hr
  refine wp_seq ?_
  refine wp_region_lit ?_
  refine ovs [2, 3] [.pointer none, .int .i64 0] hr ⟨rfl, rfl⟩ (by kernel_rfl) ?_; clear hr a; intro a hr
  refine wpList_nil ?_
  refine then_normal ?_
  refine wp_seq ?_
  refine wp_seq ?_
  refine wp_region_lit ?_
  refine ovs [4, 5, 6] [.int .i64 p0, .bool (decide (p0 < (0 : Int))), .bool (decide (p0 < (0 : Int)))] hr ⟨rfl, rfl⟩ (by kernel_rfl) ?_; clear hr a; intro a hr
  by_cases c1 : p0 < (0 : Int)
  ·
    replace H := ifT c1 H
    refine op_off ((wg hr rfl rfl rfl (b' := (decide (p0 < (0 : Int)))) (by kernel_rfl)).trans (by rw [show (decide (p0 < (0 : Int))) = true from (decide_eq_true c1)]; rfl)) rfl rfl hr ?_; clear hr a; intro a hr
    refine op_off ((wg hr rfl rfl rfl (b' := (decide (p0 < (0 : Int)))) (by kernel_rfl)).trans (by rw [show (decide (p0 < (0 : Int))) = true from (decide_eq_true c1)]; rfl)) rfl rfl hr ?_; clear hr a; intro a hr
    refine op_val (wn rfl) rfl rfl hr (v := .bool true) (rp_t (b := (decide (p0 < (0 : Int)))) rfl (by kernel_rfl) (decide_eq_true c1) (by kernel_rfl)) ?_; clear hr a; intro a hr
    refine wpList_nil ?_
    refine then_normal ?_
    refine cond_tt hr (b := true) rfl ?_
    refine wp_seq ?_
    refine wp_region_lit ?_
    refine ov hr (.agg #[.int .i64 0, .slice none 0 0, .bool false, .int .i64 0, .slice none 0 0]) (by kernel_rfl) ?_; clear hr a; intro a hr
    refine op_new (wn rfl) rfl rfl hr h (vf := fun b => .pointer (some ⟨b, 0, none⟩)) (cs := #[.int .i64 0, .slice none 0 0, .bool false, .int .i64 0, .slice none 0 0]) (T := 62) (by kernel_rfl) ?_; clear h hr a; intro b2 w a h hr
    refine ovs [2, 3] [.pointer (some ⟨b2, 0, none⟩), .int .i64 3] hr ⟨rfl, rfl⟩ (by kernel_rfl) ?_; clear hr a; intro a hr
    refine wpList_nil ?_
    refine then_normal ?_
    refine wp_ret ?_
    refine then_ret ?_
    refine end_ret2 (v := .pointer (some ⟨b2, 0, none⟩)) (v' := .int .i64 3) rfl hr (by kernel_rfl) (by kernel_rfl) ?_
    replace h : Fit z (sepL (rowOf 2 1 encZ_i64 (.slice none 0 0) ([] : List Int) :: pts b2 (.cells #[.int .i64 0, .slice none 0 0, .bool false, .int .i64 0, .slice none 0 0] 62) :: L)) _ := h.row_nil
    replace h : Fit z (sepL (rowOf 90 6 enc_T_api_Access (.slice none 0 0) ([] : List T_api_Access) :: rowOf 2 1 encZ_i64 (.slice none 0 0) ([] : List Int) :: pts b2 (.cells #[.int .i64 0, .slice none 0 0, .bool false, .int .i64 0, .slice none 0 0] 62) :: L)) _ := h.row_nil
    replace h : Fit z (sepL (pts b2 (.cells #[.int .i64 0, .slice none 0 0, .bool false, .int .i64 0, .slice none 0 0] 62) :: rowOf 2 1 encZ_i64 (.slice none 0 0) ([] : List Int) :: rowOf 90 6 enc_T_api_Access (.slice none 0 0) ([] : List T_api_Access) :: L)) _ := h.sel 3 [2, 1, 0] (by kernel_rfl) (by kernel_rfl)
    replace H := ej2 H; obtain ⟨rfl, rfl⟩ := H
    exact ⟨b2, none, 0, none, 0, rfl, h⟩
  ·
    replace H := ifF c1 H
    refine op_val ((wg hr rfl rfl rfl (b' := (decide (p0 < (0 : Int)))) (by kernel_rfl)).trans (by rw [show (decide (p0 < (0 : Int))) = false from (decide_eq_false c1)]; rfl)) rfl rfl hr (v := .int .i64 p0) (by kernel_rfl) ?_; clear hr a; intro a hr
    refine op_val ((wg hr rfl rfl rfl (b' := (decide (p0 < (0 : Int)))) (by kernel_rfl)).trans (by rw [show (decide (p0 < (0 : Int))) = false from (decide_eq_false c1)]; rfl)) rfl rfl hr (v := .bool (decide (p0 > (1048576 : Int)))) (by kernel_rfl) ?_; clear hr a; intro a hr
    refine op_val (wn rfl) rfl rfl hr (v := .bool (decide (p0 > (1048576 : Int)))) (rp_f (b := (decide (p0 < (0 : Int)))) rfl (by kernel_rfl) (decide_eq_false c1) (by kernel_rfl)) ?_; clear hr a; intro a hr
    refine wpList_nil ?_
    refine then_normal ?_
    by_cases c3 : p0 > (1048576 : Int)
    ·
      replace H := ifT c3 H
      refine cond_tt hr (b := (decide (p0 > (1048576 : Int)))) (decide_eq_true c3) ?_
      refine wp_seq ?_
      refine wp_region_lit ?_
      refine ov hr (.agg #[.int .i64 0, .slice none 0 0, .bool false, .int .i64 0, .slice none 0 0]) (by kernel_rfl) ?_; clear hr a; intro a hr
      refine op_new (wn rfl) rfl rfl hr h (vf := fun b => .pointer (some ⟨b, 0, none⟩)) (cs := #[.int .i64 0, .slice none 0 0, .bool false, .int .i64 0, .slice none 0 0]) (T := 62) (by kernel_rfl) ?_; clear h hr a; intro b4 w a h hr
      refine ovs [2, 3] [.pointer (some ⟨b4, 0, none⟩), .int .i64 3] hr ⟨rfl, rfl⟩ (by kernel_rfl) ?_; clear hr a; intro a hr
      refine wpList_nil ?_
      refine then_normal ?_
      refine wp_ret ?_
      refine then_ret ?_
      refine end_ret2 (v := .pointer (some ⟨b4, 0, none⟩)) (v' := .int .i64 3) rfl hr (by kernel_rfl) (by kernel_rfl) ?_
      replace h : Fit z (sepL (rowOf 2 1 encZ_i64 (.slice none 0 0) ([] : List Int) :: pts b4 (.cells #[.int .i64 0, .slice none 0 0, .bool false, .int .i64 0, .slice none 0 0] 62) :: L)) _ := h.row_nil
      replace h : Fit z (sepL (rowOf 90 6 enc_T_api_Access (.slice none 0 0) ([] : List T_api_Access) :: rowOf 2 1 encZ_i64 (.slice none 0 0) ([] : List Int) :: pts b4 (.cells #[.int .i64 0, .slice none 0 0, .bool false, .int .i64 0, .slice none 0 0] 62) :: L)) _ := h.row_nil
      replace h : Fit z (sepL (pts b4 (.cells #[.int .i64 0, .slice none 0 0, .bool false, .int .i64 0, .slice none 0 0] 62) :: rowOf 2 1 encZ_i64 (.slice none 0 0) ([] : List Int) :: rowOf 90 6 enc_T_api_Access (.slice none 0 0) ([] : List T_api_Access) :: L)) _ := h.sel 3 [2, 1, 0] (by kernel_rfl) (by kernel_rfl)
      replace H := ej2 H; obtain ⟨rfl, rfl⟩ := H
      exact ⟨b4, none, 0, none, 0, rfl, h⟩
    ·
      replace H := ifF c3 H
      refine cond_ff hr (b := (decide (p0 > (1048576 : Int)))) (decide_eq_false c3) ?_
      refine wp_skip ?_
      refine then_normal ?_
      refine wp_seq ?_
      refine wp_region_lit ?_
      refine ovs [12, 13] [.int .i64 p0, .agg #[.int .i64 p0, .slice none 0 0, .bool false, .int .i64 0, .slice none 0 0]] hr ⟨rfl, rfl⟩ (by kernel_rfl) ?_; clear hr a; intro a hr
      refine op_new (wn rfl) rfl rfl hr h (vf := fun b => .pointer (some ⟨b, 0, none⟩)) (cs := #[.int .i64 p0, .slice none 0 0, .bool false, .int .i64 0, .slice none 0 0]) (T := 62) (by kernel_rfl) ?_; clear h hr a; intro b5 w a h hr
      refine ovs [2, 3] [.pointer (some ⟨b5, 0, none⟩), .int .i64 0] hr ⟨rfl, rfl⟩ (by kernel_rfl) ?_; clear hr a; intro a hr
      refine wpList_nil ?_
      refine then_normal ?_
      refine wp_ret ?_
      refine end_ret2 (v := .pointer (some ⟨b5, 0, none⟩)) (v' := .int .i64 0) rfl hr (by kernel_rfl) (by kernel_rfl) ?_
      replace h : Fit z (sepL (rowOf 2 1 encZ_i64 (.slice none 0 0) ([] : List Int) :: pts b5 (.cells #[.int .i64 p0, .slice none 0 0, .bool false, .int .i64 0, .slice none 0 0] 62) :: L)) _ := h.row_nil
      replace h : Fit z (sepL (rowOf 90 6 enc_T_api_Access (.slice none 0 0) ([] : List T_api_Access) :: rowOf 2 1 encZ_i64 (.slice none 0 0) ([] : List Int) :: pts b5 (.cells #[.int .i64 p0, .slice none 0 0, .bool false, .int .i64 0, .slice none 0 0] 62) :: L)) _ := h.row_nil
      replace h : Fit z (sepL (pts b5 (.cells #[.int .i64 p0, .slice none 0 0, .bool false, .int .i64 0, .slice none 0 0] 62) :: rowOf 2 1 encZ_i64 (.slice none 0 0) ([] : List Int) :: rowOf 90 6 enc_T_api_Access (.slice none 0 0) ([] : List T_api_Access) :: L)) _ := h.sel 3 [2, 1, 0] (by kernel_rfl) (by kernel_rfl)
      replace H := ej2 H; obtain ⟨rfl, rfl⟩ := H
      exact ⟨b5, none, 0, none, 0, rfl, h⟩

/-- plunder/cells.good -/
def cells_good (p0 : Int) : Option (Bool) :=
  (if p0 ≥ (0 : Int) then some (decide (p0 ≤ (1048576 : Int))) else some false)
set_option maxRecDepth 100000 in
set_option maxHeartbeats 4000000 in
theorem cells_good_ok {z w : World} {L : List HProp} {p0 : Int} {r0 : Bool} (H : cells_good p0 = some r0) (h : Fit z (sepL (L)) w)  :
    Calls Try.prog 61 #[.int .i64 p0] w fun e w => e = .returned (.bool r0) ∧ Fit z (sepL (L)) w := by
  unfold cells_good at H
  refine enter Try.func61 rfl 9 rfl rfl [(0, .int .i64 p0)] ⟨rfl, trivial⟩ ?_
  intro j a hr
  refine wp_seq ?_
  refine wp_region_lit ?_
  refine ov hr (.bool false) (by kernel_rfl) ?_; clear hr a; intro a hr
  refine wpList_nil ?_
  refine then_normal ?_
  refine wp_seq ?_
  refine wp_region_lit ?_
  refine ovs [3, 4, 5] [.int .i64 p0, .bool (decide (p0 ≥ (0 : Int))), .bool (decide (p0 ≥ (0 : Int)))] hr ⟨rfl, rfl⟩ (by kernel_rfl) ?_; clear hr a; intro a hr
  by_cases c1 : p0 ≥ (0 : Int)
  ·
    replace H := ifT c1 H
    refine op_val ((wg hr rfl rfl rfl (b' := (decide (p0 ≥ (0 : Int)))) (by kernel_rfl)).trans (by rw [show (decide (p0 ≥ (0 : Int))) = true from (decide_eq_true c1)]; rfl)) rfl rfl hr (v := .int .i64 p0) (by kernel_rfl) ?_; clear hr a; intro a hr
    refine op_val ((wg hr rfl rfl rfl (b' := (decide (p0 ≥ (0 : Int)))) (by kernel_rfl)).trans (by rw [show (decide (p0 ≥ (0 : Int))) = true from (decide_eq_true c1)]; rfl)) rfl rfl hr (v := .bool (decide (p0 ≤ (1048576 : Int)))) (by kernel_rfl) ?_; clear hr a; intro a hr
    refine op_val (wn rfl) rfl rfl hr (v := .bool (decide (p0 ≤ (1048576 : Int)))) (rp_t (b := (decide (p0 ≥ (0 : Int)))) rfl (by kernel_rfl) (decide_eq_true c1) (by kernel_rfl)) ?_; clear hr a; intro a hr
    refine ov hr (.bool (decide (p0 ≤ (1048576 : Int)))) (by kernel_rfl) ?_; clear hr a; intro a hr
    refine wpList_nil ?_
    refine then_normal ?_
    refine wp_ret ?_
    refine end_ret1 (v := .bool (decide (p0 ≤ (1048576 : Int)))) rfl hr (by kernel_rfl) ?_
    replace H := ej1 H; subst H
    exact ⟨rfl, h⟩
  ·
    replace H := ifF c1 H
    refine op_off ((wg hr rfl rfl rfl (b' := (decide (p0 ≥ (0 : Int)))) (by kernel_rfl)).trans (by rw [show (decide (p0 ≥ (0 : Int))) = false from (decide_eq_false c1)]; rfl)) rfl rfl hr ?_; clear hr a; intro a hr
    refine op_off ((wg hr rfl rfl rfl (b' := (decide (p0 ≥ (0 : Int)))) (by kernel_rfl)).trans (by rw [show (decide (p0 ≥ (0 : Int))) = false from (decide_eq_false c1)]; rfl)) rfl rfl hr ?_; clear hr a; intro a hr
    refine op_val (wn rfl) rfl rfl hr (v := .bool false) (rp_f (b := (decide (p0 ≥ (0 : Int)))) rfl (by kernel_rfl) (decide_eq_false c1) (by kernel_rfl)) ?_; clear hr a; intro a hr
    refine ov hr (.bool false) (by kernel_rfl) ?_; clear hr a; intro a hr
    refine wpList_nil ?_
    refine then_normal ?_
    refine wp_ret ?_
    refine end_ret1 (v := .bool false) rfl hr (by kernel_rfl) ?_
    replace H := ej1 H; subst H
    exact ⟨rfl, h⟩

/-- plunder/cells.New -/
def cells_New (p0 : Int) : Option ((Option T_cells_Arena) × Int) :=
  ob1 (cells_good p0) (fun r1 => (if r1 = true then some (some (⟨p0, 0, ([] : List Int), ([] : List T_api_Access), 0, false⟩ : T_cells_Arena), 0) else some (none, 3)))
set_option maxRecDepth 100000 in
set_option maxHeartbeats 4000000 in
theorem cells_New_ok0 {z w : World} {L : List HProp} {p0 : Int} {r0 : T_cells_Arena} {r1 : Int} (H : cells_New p0 = some ((some r0), r1)) (h : Fit z (sepL (L)) w)  :
    Calls Try.prog 19 #[.int .i64 p0] w fun e w => ∃ Bn0 : Nat, ∃ car0_1 : Option Addr, ∃ ccr0_2 : Nat, ∃ car0_3 : Option Addr, ∃ ccr0_4 : Nat, e = .returned (.tuple #[.pointer (some ⟨Bn0, 0, none⟩), .int .i64 r1]) ∧ Fit z (sepL (ob96 Bn0 r0 car0_1 ccr0_2 car0_3 ccr0_4 :: ro2 car0_1 ccr0_2 r0.cell :: ro90 car0_3 ccr0_4 r0.log :: L)) w := by
  unfold cells_New at H
  refine enter Try.func19 rfl 11 rfl rfl [(0, .int .i64 p0)] ⟨rfl, trivial⟩ ?_
  intro j a hr
  refine wp_seq ?_
  refine wp_region_lit ?_
  refine ovs [2, 3] [.pointer none, .int .i64 0] hr ⟨rfl, rfl⟩ (by kernel_rfl) ?_; clear hr a; intro a hr
  refine wpList_nil ?_
  refine then_normal ?_
  refine wp_seq ?_
  refine wp_seq ?_
  refine wp_region_lit ?_
  replace H := bd1 H; obtain ⟨r1, e2, H⟩ := H
  refine ov hr (.int .i64 p0) (by kernel_rfl) ?_; clear hr a; intro a hr
  have hc := cells_good_ok (H := e2) (h := h)
  refine op_call (wn rfl) rfl rfl hr (f := 61) (args := #[.int .i64 p0]) (by kernel_rfl) hc ?_; clear hc h
  rintro _ w ⟨rfl, h⟩; refine ⟨_, rfl, ?_⟩
  clear hr a; intro a hr
  refine ov hr (.bool (!r1)) (by kernel_rfl) ?_; clear hr a; intro a hr
  refine wpList_nil ?_
  refine then_normal ?_
  by_cases c3 : r1 = true
  ·
    replace H := ifT c3 H
    refine cond_ff hr (b := (!r1)) (by rw [show r1 = true from (c3)]; rfl) ?_
    refine wp_skip ?_
    refine then_normal ?_
    refine wp_seq ?_
    refine wp_region_lit ?_
    refine ovs [7, 8, 9] [.int .i64 p0, .agg #[.int .i64 p0, .int .i64 0], .agg #[.int .i64 p0, .int .i64 0, .slice none 0 0, .slice none 0 0, .int .i64 0, .bool false]] hr ⟨rfl, rfl⟩ (by kernel_rfl) ?_; clear hr a; intro a hr
    refine op_new (wn rfl) rfl rfl hr h (vf := fun b => .pointer (some ⟨b, 0, none⟩)) (cs := #[.int .i64 p0, .int .i64 0, .slice none 0 0, .slice none 0 0, .int .i64 0, .bool false]) (T := 96) (by kernel_rfl) ?_; clear h hr a; intro b4 w a h hr
    refine ovs [2, 3] [.pointer (some ⟨b4, 0, none⟩), .int .i64 0] hr ⟨rfl, rfl⟩ (by kernel_rfl) ?_; clear hr a; intro a hr
    refine wpList_nil ?_
    refine then_normal ?_
    refine wp_ret ?_
    refine end_ret2 (v := .pointer (some ⟨b4, 0, none⟩)) (v' := .int .i64 0) rfl hr (by kernel_rfl) (by kernel_rfl) ?_
    replace h : Fit z (sepL (rowOf 2 1 encZ_i64 (.slice none 0 0) ([] : List Int) :: pts b4 (.cells #[.int .i64 p0, .int .i64 0, .slice none 0 0, .slice none 0 0, .int .i64 0, .bool false] 96) :: L)) _ := h.row_nil
    replace h : Fit z (sepL (rowOf 90 6 enc_T_api_Access (.slice none 0 0) ([] : List T_api_Access) :: rowOf 2 1 encZ_i64 (.slice none 0 0) ([] : List Int) :: pts b4 (.cells #[.int .i64 p0, .int .i64 0, .slice none 0 0, .slice none 0 0, .int .i64 0, .bool false] 96) :: L)) _ := h.row_nil
    replace h : Fit z (sepL (pts b4 (.cells #[.int .i64 p0, .int .i64 0, .slice none 0 0, .slice none 0 0, .int .i64 0, .bool false] 96) :: rowOf 2 1 encZ_i64 (.slice none 0 0) ([] : List Int) :: rowOf 90 6 enc_T_api_Access (.slice none 0 0) ([] : List T_api_Access) :: L)) _ := h.sel 3 [2, 1, 0] (by kernel_rfl) (by kernel_rfl)
    cases H
    exact ⟨b4, none, 0, none, 0, rfl, h⟩
  ·
    replace H := ifF c3 H
    refine cond_tt hr (b := (!r1)) (by rw [show r1 = false from (bF c3)]; rfl) ?_
    refine wp_seq ?_
    refine wp_region_lit ?_
    refine ovs [2, 3] [.pointer none, .int .i64 3] hr ⟨rfl, rfl⟩ (by kernel_rfl) ?_; clear hr a; intro a hr
    refine wpList_nil ?_
    refine then_normal ?_
    refine wp_ret ?_
    refine then_ret ?_
    refine end_ret2 (v := .pointer none) (v' := .int .i64 3) rfl hr (by kernel_rfl) (by kernel_rfl) ?_
    cases H

set_option maxRecDepth 100000 in
set_option maxHeartbeats 4000000 in
theorem cells_New_ok1 {z w : World} {L : List HProp} {p0 : Int} {r1 : Int} (H : cells_New p0 = some (none, r1)) (h : Fit z (sepL (L)) w)  :
    Calls Try.prog 19 #[.int .i64 p0] w fun e w => e = .returned (.tuple #[.pointer none, .int .i64 r1]) ∧ Fit z (sepL (L)) w := by
  unfold cells_New at H
  refine enter Try.func19 rfl 11 rfl rfl [(0, .int .i64 p0)] ⟨rfl, trivial⟩ ?_
  intro j a hr
  refine wp_seq ?_
  refine wp_region_lit ?_
  refine ovs [2, 3] [.pointer none, .int .i64 0] hr ⟨rfl, rfl⟩ (by kernel_rfl) ?_; clear hr a; intro a hr
  refine wpList_nil ?_
  refine then_normal ?_
  refine wp_seq ?_
  refine wp_seq ?_
  refine wp_region_lit ?_
  replace H := bd1 H; obtain ⟨r1, e2, H⟩ := H
  refine ov hr (.int .i64 p0) (by kernel_rfl) ?_; clear hr a; intro a hr
  have hc := cells_good_ok (H := e2) (h := h)
  refine op_call (wn rfl) rfl rfl hr (f := 61) (args := #[.int .i64 p0]) (by kernel_rfl) hc ?_; clear hc h
  rintro _ w ⟨rfl, h⟩; refine ⟨_, rfl, ?_⟩
  clear hr a; intro a hr
  refine ov hr (.bool (!r1)) (by kernel_rfl) ?_; clear hr a; intro a hr
  refine wpList_nil ?_
  refine then_normal ?_
  by_cases c3 : r1 = true
  ·
    replace H := ifT c3 H
    refine cond_ff hr (b := (!r1)) (by rw [show r1 = true from (c3)]; rfl) ?_
    refine wp_skip ?_
    refine then_normal ?_
    refine wp_seq ?_
    refine wp_region_lit ?_
    refine ovs [7, 8, 9] [.int .i64 p0, .agg #[.int .i64 p0, .int .i64 0], .agg #[.int .i64 p0, .int .i64 0, .slice none 0 0, .slice none 0 0, .int .i64 0, .bool false]] hr ⟨rfl, rfl⟩ (by kernel_rfl) ?_; clear hr a; intro a hr
    refine op_new (wn rfl) rfl rfl hr h (vf := fun b => .pointer (some ⟨b, 0, none⟩)) (cs := #[.int .i64 p0, .int .i64 0, .slice none 0 0, .slice none 0 0, .int .i64 0, .bool false]) (T := 96) (by kernel_rfl) ?_; clear h hr a; intro b4 w a h hr
    refine ovs [2, 3] [.pointer (some ⟨b4, 0, none⟩), .int .i64 0] hr ⟨rfl, rfl⟩ (by kernel_rfl) ?_; clear hr a; intro a hr
    refine wpList_nil ?_
    refine then_normal ?_
    refine wp_ret ?_
    refine end_ret2 (v := .pointer (some ⟨b4, 0, none⟩)) (v' := .int .i64 0) rfl hr (by kernel_rfl) (by kernel_rfl) ?_
    replace h : Fit z (sepL (rowOf 2 1 encZ_i64 (.slice none 0 0) ([] : List Int) :: pts b4 (.cells #[.int .i64 p0, .int .i64 0, .slice none 0 0, .slice none 0 0, .int .i64 0, .bool false] 96) :: L)) _ := h.row_nil
    replace h : Fit z (sepL (rowOf 90 6 enc_T_api_Access (.slice none 0 0) ([] : List T_api_Access) :: rowOf 2 1 encZ_i64 (.slice none 0 0) ([] : List Int) :: pts b4 (.cells #[.int .i64 p0, .int .i64 0, .slice none 0 0, .slice none 0 0, .int .i64 0, .bool false] 96) :: L)) _ := h.row_nil
    cases H
  ·
    replace H := ifF c3 H
    refine cond_tt hr (b := (!r1)) (by rw [show r1 = false from (bF c3)]; rfl) ?_
    refine wp_seq ?_
    refine wp_region_lit ?_
    refine ovs [2, 3] [.pointer none, .int .i64 3] hr ⟨rfl, rfl⟩ (by kernel_rfl) ?_; clear hr a; intro a hr
    refine wpList_nil ?_
    refine then_normal ?_
    refine wp_ret ?_
    refine then_ret ?_
    refine end_ret2 (v := .pointer none) (v' := .int .i64 3) rfl hr (by kernel_rfl) (by kernel_rfl) ?_
    cases H
    exact ⟨rfl, h⟩

/-- plunder/plunderlaw2.mod -/
def plunderlaw2_mod (p0 : Int) (p1 : Int) : Option (Int) :=
  if p1 ≠ 0 then (if (p0.tmod p1) < (0 : Int) then some (wi ((p0.tmod p1) + p1)) else some (p0.tmod p1)) else none
set_option maxRecDepth 100000 in
set_option maxHeartbeats 4000000 in
theorem plunderlaw2_mod_ok {z w : World} {L : List HProp} {p0 : Int} {p1 : Int} {r0 : Int} (H : plunderlaw2_mod p0 p1 = some r0) (h : Fit z (sepL (L)) w)  :
    Calls Try.prog 23 #[.int .i64 p0, .int .i64 p1] w fun e w => e = .returned (.int .i64 r0) ∧ Fit z (sepL (L)) w := by
  unfold plunderlaw2_mod at H
  refine enter Try.func23 rfl 15 rfl rfl [(0, .int .i64 p0), (1, .int .i64 p1)] ⟨rfl, rfl, trivial⟩ ?_
  intro j a hr
  refine wp_seq ?_
  refine wp_region_lit ?_
  refine ov hr (.int .i64 0) (by kernel_rfl) ?_; clear hr a; intro a hr
  refine wpList_nil ?_
  refine then_normal ?_
  refine wp_seq ?_
  refine wp_region_lit ?_
  replace H := gd H; obtain ⟨c1, H⟩ := H
  refine ovs [6, 7] [.int .i64 p0, .int .i64 p1] hr ⟨rfl, rfl⟩ (by kernel_rfl) ?_; clear hr a; intro a hr
  refine op_val (wn rfl) rfl rfl hr (v := .int .i64 (p0.tmod p1)) (rrem rfl (by kernel_rfl) (by kernel_rfl) c1) ?_; clear hr a; intro a hr
  refine ov hr (.int .i64 (p0.tmod p1)) (by kernel_rfl) ?_; clear hr a; intro a hr
  refine wpList_nil ?_
  refine then_normal ?_
  refine wp_seq ?_
  refine wp_seq ?_
  refine wp_region_lit ?_
  refine ovs [9, 10] [.int .i64 (p0.tmod p1), .bool (decide ((p0.tmod p1) < (0 : Int)))] hr ⟨rfl, rfl⟩ (by kernel_rfl) ?_; clear hr a; intro a hr
  refine wpList_nil ?_
  refine then_normal ?_
  by_cases c2 : (p0.tmod p1) < (0 : Int)
  ·
    replace H := ifT c2 H
    refine cond_tt hr (b := (decide ((p0.tmod p1) < (0 : Int)))) (decide_eq_true c2) ?_
    refine wp_region_lit ?_
    refine ovs [11, 12, 13, 5] [.int .i64 (p0.tmod p1), .int .i64 p1, .int .i64 (wi ((p0.tmod p1) + p1)), .int .i64 (wi ((p0.tmod p1) + p1))] hr ⟨rfl, rfl⟩ (by kernel_rfl) ?_; clear hr a; intro a hr
    refine wpList_nil ?_
    refine then_normal ?_
    refine wp_seq ?_
    refine wp_region_lit ?_
    refine ovs [14, 4] [.int .i64 (wi ((p0.tmod p1) + p1)), .int .i64 (wi ((p0.tmod p1) + p1))] hr ⟨rfl, rfl⟩ (by kernel_rfl) ?_; clear hr a; intro a hr
    refine wpList_nil ?_
    refine then_normal ?_
    refine wp_ret ?_
    refine end_ret1 (v := .int .i64 (wi ((p0.tmod p1) + p1))) rfl hr (by kernel_rfl) ?_
    replace H := ej1 H; subst H
    exact ⟨rfl, h⟩
  ·
    replace H := ifF c2 H
    refine cond_ff hr (b := (decide ((p0.tmod p1) < (0 : Int)))) (decide_eq_false c2) ?_
    refine wp_skip ?_
    refine then_normal ?_
    refine wp_seq ?_
    refine wp_region_lit ?_
    refine ovs [14, 4] [.int .i64 (p0.tmod p1), .int .i64 (p0.tmod p1)] hr ⟨rfl, rfl⟩ (by kernel_rfl) ?_; clear hr a; intro a hr
    refine wpList_nil ?_
    refine then_normal ?_
    refine wp_ret ?_
    refine end_ret1 (v := .int .i64 (p0.tmod p1)) rfl hr (by kernel_rfl) ?_
    replace H := ej1 H; subst H
    exact ⟨rfl, h⟩

/-- (*plunder/cells.ledger).has -/
def cells_ledger_has (p0 : T_cells_Arena) (p1 : Int) : Option (Bool) :=
  (if p1 ≥ (0 : Int) then some (decide (p1 < p0.ledger_mark)) else some false)
set_option maxRecDepth 100000 in
set_option maxHeartbeats 4000000 in
theorem cells_ledger_has_ok {z w : World} {L : List HProp} {p0 : T_cells_Arena} {p1 : Int} {B0 : Nat} {ca1 : Option Addr} {cc2 : Nat} {ca3 : Option Addr} {cc4 : Nat} {r0 : Bool} (H : cells_ledger_has p0 p1 = some r0) (h : Fit z (sepL (ob96 B0 p0 ca1 cc2 ca3 cc4 :: ro2 ca1 cc2 p0.cell :: ro90 ca3 cc4 p0.log :: L)) w)  :
    Calls Try.prog 100 #[.pointer (some ⟨B0, 0, none⟩), .int .i64 p1] w fun e w => e = .returned (.bool r0) ∧ Fit z (sepL (ob96 B0 p0 ca1 cc2 ca3 cc4 :: ro2 ca1 cc2 p0.cell :: ro90 ca3 cc4 p0.log :: L)) w := by
  unfold cells_ledger_has at H
  refine enter Try.func100 rfl 15 rfl rfl [(0, .pointer (some ⟨B0, 0, none⟩)), (1, .int .i64 p1)] ⟨rfl, rfl, trivial⟩ ?_
  intro j a hr
  refine wp_seq ?_
  refine wp_region_lit ?_
  refine ov hr (.bool false) (by kernel_rfl) ?_; clear hr a; intro a hr
  refine wpList_nil ?_
  refine then_normal ?_
  refine wp_seq ?_
  refine wp_region_lit ?_
  refine ovs [5, 6, 7] [.int .i64 p1, .bool (decide (p1 ≥ (0 : Int))), .bool (decide (p1 ≥ (0 : Int)))] hr ⟨rfl, rfl⟩ (by kernel_rfl) ?_; clear hr a; intro a hr
  by_cases c5 : p1 ≥ (0 : Int)
  ·
    replace H := ifT c5 H
    refine op_val ((wg hr rfl rfl rfl (b' := (decide (p1 ≥ (0 : Int)))) (by kernel_rfl)).trans (by rw [show (decide (p1 ≥ (0 : Int))) = true from (decide_eq_true c5)]; rfl)) rfl rfl hr (v := .int .i64 p1) (by kernel_rfl) ?_; clear hr a; intro a hr
    refine op_val ((wg hr rfl rfl rfl (b' := (decide (p1 ≥ (0 : Int)))) (by kernel_rfl)).trans (by rw [show (decide (p1 ≥ (0 : Int))) = true from (decide_eq_true c5)]; rfl)) rfl rfl hr (v := .pointer (some ⟨B0, 0, none⟩)) (by kernel_rfl) ?_; clear hr a; intro a hr
    refine op_val ((wg hr rfl rfl rfl (b' := (decide (p1 ≥ (0 : Int)))) (by kernel_rfl)).trans (by rw [show (decide (p1 ≥ (0 : Int))) = true from (decide_eq_true c5)]; rfl)) rfl rfl hr (v := .pointer (some ⟨B0, 0, none⟩)) (by kernel_rfl) ?_; clear hr a; intro a hr
    refine op_val ((wg hr rfl rfl rfl (b' := (decide (p1 ≥ (0 : Int)))) (by kernel_rfl)).trans (by rw [show (decide (p1 ≥ (0 : Int))) = true from (decide_eq_true c5)]; rfl)) rfl rfl hr (v := .pointer (some ⟨B0, 1, none⟩)) (by kernel_rfl) ?_; clear hr a; intro a hr
    refine op_val ((wg hr rfl rfl rfl (b' := (decide (p1 ≥ (0 : Int)))) (by kernel_rfl)).trans (by rw [show (decide (p1 ≥ (0 : Int))) = true from (decide_eq_true c5)]; rfl)) rfl rfl hr (v := .int .i64 p0.ledger_mark) (rl rfl (by kernel_rfl) (by kernel_rfl) (h.cell 1 rfl)) ?_; clear hr a; intro a hr
    refine op_val ((wg hr rfl rfl rfl (b' := (decide (p1 ≥ (0 : Int)))) (by kernel_rfl)).trans (by rw [show (decide (p1 ≥ (0 : Int))) = true from (decide_eq_true c5)]; rfl)) rfl rfl hr (v := .bool (decide (p1 < p0.ledger_mark))) (by kernel_rfl) ?_; clear hr a; intro a hr
    refine op_val (wn rfl) rfl rfl hr (v := .bool (decide (p1 < p0.ledger_mark))) (rp_t (b := (decide (p1 ≥ (0 : Int)))) rfl (by kernel_rfl) (decide_eq_true c5) (by kernel_rfl)) ?_; clear hr a; intro a hr
    refine ov hr (.bool (decide (p1 < p0.ledger_mark))) (by kernel_rfl) ?_; clear hr a; intro a hr
    refine wpList_nil ?_
    refine then_normal ?_
    refine wp_ret ?_
    refine end_ret1 (v := .bool (decide (p1 < p0.ledger_mark))) rfl hr (by kernel_rfl) ?_
    replace H := ej1 H; subst H
    exact ⟨rfl, h⟩
  ·
    replace H := ifF c5 H
    refine op_off ((wg hr rfl rfl rfl (b' := (decide (p1 ≥ (0 : Int)))) (by kernel_rfl)).trans (by rw [show (decide (p1 ≥ (0 : Int))) = false from (decide_eq_false c5)]; rfl)) rfl rfl hr ?_; clear hr a; intro a hr
    refine op_off ((wg hr rfl rfl rfl (b' := (decide (p1 ≥ (0 : Int)))) (by kernel_rfl)).trans (by rw [show (decide (p1 ≥ (0 : Int))) = false from (decide_eq_false c5)]; rfl)) rfl rfl hr ?_; clear hr a; intro a hr
    refine op_off ((wg hr rfl rfl rfl (b' := (decide (p1 ≥ (0 : Int)))) (by kernel_rfl)).trans (by rw [show (decide (p1 ≥ (0 : Int))) = false from (decide_eq_false c5)]; rfl)) rfl rfl hr ?_; clear hr a; intro a hr
    refine op_off ((wg hr rfl rfl rfl (b' := (decide (p1 ≥ (0 : Int)))) (by kernel_rfl)).trans (by rw [show (decide (p1 ≥ (0 : Int))) = false from (decide_eq_false c5)]; rfl)) rfl rfl hr ?_; clear hr a; intro a hr
    refine op_off ((wg hr rfl rfl rfl (b' := (decide (p1 ≥ (0 : Int)))) (by kernel_rfl)).trans (by rw [show (decide (p1 ≥ (0 : Int))) = false from (decide_eq_false c5)]; rfl)) rfl rfl hr ?_; clear hr a; intro a hr
    refine op_off ((wg hr rfl rfl rfl (b' := (decide (p1 ≥ (0 : Int)))) (by kernel_rfl)).trans (by rw [show (decide (p1 ≥ (0 : Int))) = false from (decide_eq_false c5)]; rfl)) rfl rfl hr ?_; clear hr a; intro a hr
    refine op_val (wn rfl) rfl rfl hr (v := .bool false) (rp_f (b := (decide (p1 ≥ (0 : Int)))) rfl (by kernel_rfl) (decide_eq_false c5) (by kernel_rfl)) ?_; clear hr a; intro a hr
    refine ov hr (.bool false) (by kernel_rfl) ?_; clear hr a; intro a hr
    refine wpList_nil ?_
    refine then_normal ?_
    refine wp_ret ?_
    refine end_ret1 (v := .bool false) rfl hr (by kernel_rfl) ?_
    replace H := ej1 H; subst H
    exact ⟨rfl, h⟩

/-- (*plunder/cells.Arena).outside -/
def cells_Arena_outside (p0 : T_cells_Arena) (p1 : Int) : Option (Bool) :=
  ob1 (cells_ledger_has p0 p1) (fun r5 => some (!r5))
set_option maxRecDepth 100000 in
set_option maxHeartbeats 4000000 in
theorem cells_Arena_outside_ok {z w : World} {L : List HProp} {p0 : T_cells_Arena} {p1 : Int} {B0 : Nat} {ca1 : Option Addr} {cc2 : Nat} {ca3 : Option Addr} {cc4 : Nat} {r0 : Bool} (H : cells_Arena_outside p0 p1 = some r0) (h : Fit z (sepL (ob96 B0 p0 ca1 cc2 ca3 cc4 :: ro2 ca1 cc2 p0.cell :: ro90 ca3 cc4 p0.log :: L)) w)  :
    Calls Try.prog 65 #[.pointer (some ⟨B0, 0, none⟩), .int .i64 p1] w fun e w => e = .returned (.bool r0) ∧ Fit z (sepL (ob96 B0 p0 ca1 cc2 ca3 cc4 :: ro2 ca1 cc2 p0.cell :: ro90 ca3 cc4 p0.log :: L)) w := by
  unfold cells_Arena_outside at H
  refine enter Try.func65 rfl 15 rfl rfl [(0, .pointer (some ⟨B0, 0, none⟩)), (1, .int .i64 p1)] ⟨rfl, rfl, trivial⟩ ?_
  intro j a hr
  refine wp_seq ?_
  refine wp_region_lit ?_
  refine ov hr (.bool false) (by kernel_rfl) ?_; clear hr a; intro a hr
  refine wpList_nil ?_
  refine then_normal ?_
  refine wp_seq ?_
  refine wp_region_lit ?_
  refine ovs [5, 6, 7] [.pointer (some ⟨B0, 0, none⟩), .bool false, .bool false] hr ⟨rfl, rfl⟩ (by kernel_rfl) ?_; clear hr a; intro a hr
  refine op_val ((wg hr rfl rfl rfl (b' := false) (by kernel_rfl)).trans rfl) rfl rfl hr (v := .pointer (some ⟨B0, 0, none⟩)) (by kernel_rfl) ?_; clear hr a; intro a hr
  refine op_val ((wg hr rfl rfl rfl (b' := false) (by kernel_rfl)).trans rfl) rfl rfl hr (v := .pointer (some ⟨B0, 0, none⟩)) (by kernel_rfl) ?_; clear hr a; intro a hr
  refine op_val ((wg hr rfl rfl rfl (b' := false) (by kernel_rfl)).trans rfl) rfl rfl hr (v := .pointer (some ⟨B0, 0, none⟩)) (by kernel_rfl) ?_; clear hr a; intro a hr
  refine op_val ((wg hr rfl rfl rfl (b' := false) (by kernel_rfl)).trans rfl) rfl rfl hr (v := .int .i64 p1) (by kernel_rfl) ?_; clear hr a; intro a hr
  replace H := bd1 H; obtain ⟨r5, e6, H⟩ := H
  have hc := cells_ledger_has_ok (H := e6) (h := h)
  refine op_call ((wg hr rfl rfl rfl (b' := false) (by kernel_rfl)).trans rfl) rfl rfl hr (f := 100) (args := #[.pointer (some ⟨B0, 0, none⟩), .int .i64 p1]) (by kernel_rfl) hc ?_; clear hc h
  rintro _ w ⟨rfl, h⟩; refine ⟨_, rfl, ?_⟩
  clear hr a; intro a hr
  refine op_val ((wg hr rfl rfl rfl (b' := false) (by kernel_rfl)).trans rfl) rfl rfl hr (v := .bool (!r5)) (by kernel_rfl) ?_; clear hr a; intro a hr
  refine ovs [14, 4] [.bool (!r5), .bool (!r5)] hr ⟨rfl, rfl⟩ (by kernel_rfl) ?_; clear hr a; intro a hr
  refine wpList_nil ?_
  refine then_normal ?_
  refine wp_ret ?_
  refine end_ret1 (v := .bool (!r5)) rfl hr (by kernel_rfl) ?_
  replace H := ej1 H; subst H
  exact ⟨rfl, h⟩

/-- (*plunder/cells.Arena).note -/
def cells_Arena_note (p0 : T_cells_Arena) (p1 : Int) (p2 : Int) (p3 : Int) (p4 : Int) (p5 : Bool) : Option (T_cells_Arena) :=
  (if p0.watched = true then if (p0.log.length + 1) * 48 ≤ 140737488355328 then some ({ p0 with log := p0.log ++ [(⟨p0.actor, p1, p2, p3, p4, p5⟩ : T_api_Access)] }) else none else some p0)
set_option maxRecDepth 100000 in
set_option maxHeartbeats 4000000 in
theorem cells_Arena_note_ok {z w : World} {L : List HProp} {p0 : T_cells_Arena} {p1 : Int} {p2 : Int} {p3 : Int} {p4 : Int} {p5 : Bool} {B0 : Nat} {ca1 : Option Addr} {cc2 : Nat} {ca3 : Option Addr} {cc4 : Nat} {q0 : T_cells_Arena} (H : cells_Arena_note p0 p1 p2 p3 p4 p5 = some q0) (h : Fit z (sepL (ob96 B0 p0 ca1 cc2 ca3 cc4 :: ro2 ca1 cc2 p0.cell :: ro90 ca3 cc4 p0.log :: L)) w)  :
    Calls Try.prog 64 #[.pointer (some ⟨B0, 0, none⟩), .int .i64 p1, .int .i64 p2, .int .i64 p3, .int .i64 p4, .bool p5] w fun e w => ∃ caq0_1 : Option Addr, ∃ ccq0_2 : Nat, ∃ caq0_3 : Option Addr, ∃ ccq0_4 : Nat, e = .returned (.tuple #[]) ∧ Fit z (sepL (ob96 B0 q0 caq0_1 ccq0_2 caq0_3 ccq0_4 :: ro2 caq0_1 ccq0_2 q0.cell :: ro90 caq0_3 ccq0_4 q0.log :: L)) w := by
  unfold cells_Arena_note at H
  refine enter Try.func64 rfl 35 rfl rfl [(0, .pointer (some ⟨B0, 0, none⟩)), (1, .int .i64 p1), (2, .int .i64 p2), (3, .int .i64 p3), (4, .int .i64 p4), (5, .bool p5)] ⟨rfl, rfl, rfl, rfl, rfl, rfl, trivial⟩ ?_
  intro j a hr
  refine wp_seq ?_
  refine wp_region_lit ?_
  refine ovs [12, 13, 14] [.pointer (some ⟨B0, 0, none⟩), .pointer (some ⟨B0, 0, none⟩), .pointer (some ⟨B0, 5, none⟩)] hr ⟨rfl, rfl⟩ (by kernel_rfl) ?_; clear hr a; intro a hr
  refine op_val (wn rfl) rfl rfl hr (v := .bool p0.watched) (rl rfl (by kernel_rfl) (by kernel_rfl) (h.cell 5 rfl)) ?_; clear hr a; intro a hr
  refine wpList_nil ?_
  refine then_normal ?_
  by_cases c5 : p0.watched = true
  ·
    replace H := ifT c5 H
    refine cond_tt hr (b := p0.watched) (c5) ?_
    replace H := gd H; obtain ⟨c9, H⟩ := H
    refine reg_E (fun w => heldC w B0 3 [.slice ca3 p0.log.length cc4] ∧ heldC w B0 4 [.int .i64 p0.actor] ∧ True) [2, 3, 6, 7, 14] h (by kernel_rfl) ?_; intro w h
    change wpAnyE _ _ _ _ _ _ 20 (Array.replicate 20 false) a w
    have hgo : ∀ w w', CellsGo w w' → (heldC w B0 3 [.slice ca3 p0.log.length cc4] ∧ heldC w B0 4 [.int .i64 p0.actor] ∧ True) → heldC w' B0 3 [.slice ca3 p0.log.length cc4] ∧ heldC w' B0 4 [.int .i64 p0.actor] ∧ True := fun w w' g hD => ⟨heldC_go _ _ _ _ _ g hD.1, heldC_go _ _ _ _ _ g hD.2.1, trivial⟩
    refine ev 19 0 rfl (by kernel_rfl) (wn rfl) hr (.pointer (some ⟨B0, 0, none⟩)) (fun w => by kernel_rfl) ?_; clear hr a; intro a hr
    refine ev 18 1 rfl (by kernel_rfl) (wn rfl) hr (.pointer (some ⟨B0, 0, none⟩)) (fun w => by kernel_rfl) ?_; clear hr a; intro a hr
    refine evD hgo ⟨⟨h.cell 3 rfl, trivial⟩, ⟨h.cell 4 rfl, trivial⟩, trivial⟩ 17 2 rfl (by kernel_rfl) (wn rfl) hr (.pointer (some ⟨B0, 0, none⟩)) (fun w => by kernel_rfl) ?_; clear hr a; intro a hr
    refine evD hgo ⟨⟨h.cell 3 rfl, trivial⟩, ⟨h.cell 4 rfl, trivial⟩, trivial⟩ 16 3 rfl (by kernel_rfl) (wn rfl) hr (.pointer (some ⟨B0, 3, none⟩)) (fun w => by kernel_rfl) ?_; clear hr a; intro a hr
    refine ev 15 5 rfl (by kernel_rfl) (wn rfl) hr (.pointer (some ⟨B0, 0, none⟩)) (fun w => by kernel_rfl) ?_; clear hr a; intro a hr
    refine evD hgo ⟨⟨h.cell 3 rfl, trivial⟩, ⟨h.cell 4 rfl, trivial⟩, trivial⟩ 14 6 rfl (by kernel_rfl) (wn rfl) hr (.pointer (some ⟨B0, 0, none⟩)) (fun w => by kernel_rfl) ?_; clear hr a; intro a hr
    refine evD hgo ⟨⟨h.cell 3 rfl, trivial⟩, ⟨h.cell 4 rfl, trivial⟩, trivial⟩ 13 7 rfl (by kernel_rfl) (wn rfl) hr (.pointer (some ⟨B0, 4, none⟩)) (fun w => by kernel_rfl) ?_; clear hr a; intro a hr
    refine ev 12 9 rfl (by kernel_rfl) (wn rfl) hr (.int .i64 p1) (fun w => by kernel_rfl) ?_; clear hr a; intro a hr
    refine ev 11 10 rfl (by kernel_rfl) (wn rfl) hr (.int .i64 p2) (fun w => by kernel_rfl) ?_; clear hr a; intro a hr
    refine ev 10 11 rfl (by kernel_rfl) (wn rfl) hr (.int .i64 p3) (fun w => by kernel_rfl) ?_; clear hr a; intro a hr
    refine ev 9 12 rfl (by kernel_rfl) (wn rfl) hr (.int .i64 p4) (fun w => by kernel_rfl) ?_; clear hr a; intro a hr
    refine ev 8 13 rfl (by kernel_rfl) (wn rfl) hr (.bool p5) (fun w => by kernel_rfl) ?_; clear hr a; intro a hr
    refine el [2, 3, 6, 7, 14] (b := B0) (off := 3) (cs := [.slice ca3 p0.log.length cc4]) (fun _ hk => ⟨hk, fun w hD => hD.1⟩) 7 4 rfl (by kernel_rfl) (wn rfl) hr (.slice ca3 p0.log.length cc4) ⟨h.cell 3 rfl, trivial⟩ (fun w hc => rl rfl (by kernel_rfl) (by kernel_rfl) hc.1) ?_; clear hr a; intro a hr
    refine el [2, 3, 6, 7, 14] (b := B0) (off := 4) (cs := [.int .i64 p0.actor]) (fun _ hk => ⟨hk, fun w hD => hD.2.1⟩) 6 8 rfl (by kernel_rfl) (wn rfl) hr (.int .i64 p0.actor) ⟨h.cell 4 rfl, trivial⟩ (fun w hc => rl rfl (by kernel_rfl) (by kernel_rfl) hc.1) ?_; clear hr a; intro a hr
    refine evD hgo ⟨⟨h.cell 3 rfl, trivial⟩, ⟨h.cell 4 rfl, trivial⟩, trivial⟩ 5 14 rfl (by kernel_rfl) (wn rfl) hr (.agg #[.int .i64 p0.actor, .int .i64 p1, .int .i64 p2, .int .i64 p3, .int .i64 p4, .bool p5]) (fun w => by kernel_rfl) ?_; clear hr a; intro a hr
    refine e_one (fuel := 4) (i := 15) (by kernel_rfl) rfl ?_
    refine op_new (wn rfl) rfl rfl hr h (vf := fun b => .slice (some ⟨b, 0, none⟩) 1 1) (cs := #[.int .i64 p0.actor, .int .i64 p1, .int .i64 p2, .int .i64 p3, .int .i64 p4, .bool p5]) (T := 90) (by kernel_rfl) ?_; clear h hr a; intro b6 w a h hr
    refine wpList_nil ?_; refine then_normal ?_
    refine ⟨fun hE => absurd hE (by decide), ?_⟩
    refine e_one (fuel := 3) (i := 16) (by kernel_rfl) rfl ?_
    replace h : Fit z (sepL (ro90 ca3 cc4 p0.log :: pts b6 (.cells #[.int .i64 p0.actor, .int .i64 p1, .int .i64 p2, .int .i64 p3, .int .i64 p4, .bool p5] 90) :: ob96 B0 p0 ca1 cc2 ca3 cc4 :: ro2 ca1 cc2 p0.cell :: L)) _ := h.sel 4 [3, 0, 1, 2] (by kernel_rfl) (by kernel_rfl)
    refine op_append (n0 := p0.log.length) (c := 1) (bytes := 48) (wn rfl) rfl rfl hr rfl (by kernel_rfl) (by kernel_rfl) enc_T_api_Access_ok (E := 90) (xs := p0.log) (by kernel_rfl) (by kernel_rfl) h (news := [(⟨p0.actor, p1, p2, p3, p4, p5⟩ : T_api_Access)]) (m := 1) rfl ((h.pick 1).news rfl) c9 rfl ?_; clear h hr a; intro ca7 cc8 w a h hr
    refine wpList_nil ?_; refine then_normal ?_
    replace h : Fit z (sepL (ro90 ca7 cc8 (p0.log ++ [(⟨p0.actor, p1, p2, p3, p4, p5⟩ : T_api_Access)]) :: pts b6 (.cells #[.int .i64 p0.actor, .int .i64 p1, .int .i64 p2, .int .i64 p3, .int .i64 p4, .bool p5] 90) :: ob96 B0 p0 ca1 cc2 ca3 cc4 :: ro2 ca1 cc2 p0.cell :: L)) _ := h
    refine ⟨fun hE => absurd hE (by decide), ?_⟩
    refine ev 2 17 rfl (by kernel_rfl) (wn rfl) hr (.pointer (some ⟨B0, 0, none⟩)) (fun w => by kernel_rfl) ?_; clear hr a; intro a hr
    refine ev 1 18 rfl (by kernel_rfl) (wn rfl) hr (.pointer (some ⟨B0, 3, none⟩)) (fun w => by kernel_rfl) ?_; clear hr a; intro a hr
    refine e_one (fuel := 0) (i := 19) (by kernel_rfl) rfl ?_
    replace h : Fit z (sepL (ob96 B0 p0 ca1 cc2 ca3 cc4 :: ro90 ca7 cc8 (p0.log ++ [(⟨p0.actor, p1, p2, p3, p4, p5⟩ : T_api_Access)]) :: pts b6 (.cells #[.int .i64 p0.actor, .int .i64 p1, .int .i64 p2, .int .i64 p3, .int .i64 p4, .bool p5] 90) :: ro2 ca1 cc2 p0.cell :: L)) _ := h.sel 4 [2, 0, 1, 3] (by kernel_rfl) (by kernel_rfl)
    refine op_store (wn rfl) rfl hr rfl (by kernel_rfl) (by kernel_rfl) (v := .slice ca7 ((p0.log ++ [(⟨p0.actor, p1, p2, p3, p4, p5⟩ : T_api_Access)]).length) cc8) rfl rfl (by kernel_rfl) h (i := 3) rfl ?_; clear h; intro w h
    refine wpList_nil ?_; refine then_normal ?_
    replace h : Fit z (sepL (pts B0 (.cells #[.int .i64 p0.ledger_size, .int .i64 p0.ledger_mark, .slice ca1 p0.cell.length cc2, .slice ca7 ((p0.log ++ [(⟨p0.actor, p1, p2, p3, p4, p5⟩ : T_api_Access)]).length) cc8, .int .i64 p0.actor, .bool p0.watched] 96) :: ro90 ca7 cc8 (p0.log ++ [(⟨p0.actor, p1, p2, p3, p4, p5⟩ : T_api_Access)]) :: pts b6 (.cells #[.int .i64 p0.actor, .int .i64 p1, .int .i64 p2, .int .i64 p3, .int .i64 p4, .bool p5] 90) :: ro2 ca1 cc2 p0.cell :: L)) _ := h
    refine ⟨fun hE => absurd hE (by decide), ?_⟩
    refine e_end (by kernel_rfl) ?_
    refine end_norm0 rfl hr ?_
    replace h : Fit z (sepL (pts B0 (.cells #[.int .i64 p0.ledger_size, .int .i64 p0.ledger_mark, .slice ca1 p0.cell.length cc2, .slice ca7 ((p0.log ++ [(⟨p0.actor, p1, p2, p3, p4, p5⟩ : T_api_Access)]).length) cc8, .int .i64 p0.actor, .bool p0.watched] 96) :: ro2 ca1 cc2 p0.cell :: ro90 ca7 cc8 (p0.log ++ [(⟨p0.actor, p1, p2, p3, p4, p5⟩ : T_api_Access)]) :: L)) _ := h.sel 4 [0, 3, 1] (by kernel_rfl) (by kernel_rfl)
    replace H := ej1 H; subst H
    exact ⟨ca1, cc2, ca7, cc8, rfl, h⟩
  ·
    replace H := ifF c5 H
    refine cond_ff hr (b := p0.watched) (bF c5) ?_
    refine wp_skip ?_
    refine end_norm0 rfl hr ?_
    replace H := ej1 H; subst H
    exact ⟨ca1, cc2, ca3, cc4, rfl, h⟩

/-- (*plunder/cells.Arena).Load -/
def cells_Arena_Load (p0 : T_cells_Arena) (p1 : Int) : Option (Int × Int × T_cells_Arena) :=
  ob1 (cells_Arena_outside p0 p1) (fun r5 => (if r5 = true then some (0, 20, p0) else if inr_ p1 p0.cell.length then ob1 (cells_Arena_note p0 0 p1 (at_ p0.cell p1.toNat) 0 true) (fun S9 => some ((at_ p0.cell p1.toNat), 0, S9)) else none))
set_option maxRecDepth 100000 in
set_option maxHeartbeats 4000000 in
theorem cells_Arena_Load_ok {z w : World} {L : List HProp} {p0 : T_cells_Arena} {p1 : Int} {B0 : Nat} {ca1 : Option Addr} {cc2 : Nat} {ca3 : Option Addr} {cc4 : Nat} {r0 : Int} {r1 : Int} {q0 : T_cells_Arena} (H : cells_Arena_Load p0 p1 = some (r0, r1, q0)) (h : Fit z (sepL (ob96 B0 p0 ca1 cc2 ca3 cc4 :: ro2 ca1 cc2 p0.cell :: ro90 ca3 cc4 p0.log :: L)) w)  :
    Calls Try.prog 66 #[.pointer (some ⟨B0, 0, none⟩), .int .i64 p1] w fun e w => ∃ caq0_1 : Option Addr, ∃ ccq0_2 : Nat, ∃ caq0_3 : Option Addr, ∃ ccq0_4 : Nat, e = .returned (.tuple #[.int .i64 r0, .int .i64 r1]) ∧ Fit z (sepL (ob96 B0 q0 caq0_1 ccq0_2 caq0_3 ccq0_4 :: ro2 caq0_1 ccq0_2 q0.cell :: ro90 caq0_3 ccq0_4 q0.log :: L)) w := by
  unfold cells_Arena_Load at H
  refine enter Try.func66 rfl 22 rfl rfl [(0, .pointer (some ⟨B0, 0, none⟩)), (1, .int .i64 p1)] ⟨rfl, rfl, trivial⟩ ?_
  intro j a hr
  refine wp_seq ?_
  refine wp_region_lit ?_
  refine ovs [4, 5] [.int .i64 0, .int .i64 0] hr ⟨rfl, rfl⟩ (by kernel_rfl) ?_; clear hr a; intro a hr
  refine wpList_nil ?_
  refine then_normal ?_
  refine wp_seq ?_
  refine wp_seq ?_
  refine wp_region_lit ?_
  replace H := bd1 H; obtain ⟨r5, e6, H⟩ := H
  refine ovs [7, 8] [.pointer (some ⟨B0, 0, none⟩), .int .i64 p1] hr ⟨rfl, rfl⟩ (by kernel_rfl) ?_; clear hr a; intro a hr
  have hc := cells_Arena_outside_ok (H := e6) (h := h)
  refine op_call (wn rfl) rfl rfl hr (f := 65) (args := #[.pointer (some ⟨B0, 0, none⟩), .int .i64 p1]) (by kernel_rfl) hc ?_; clear hc h
  rintro _ w ⟨rfl, h⟩; refine ⟨_, rfl, ?_⟩
  clear hr a; intro a hr
  refine wpList_nil ?_
  refine then_normal ?_
  by_cases c7 : r5 = true
  ·
    replace H := ifT c7 H
    refine cond_tt hr (b := r5) (c7) ?_
    refine wp_seq ?_
    refine wp_region_lit ?_
    refine ovs [4, 5] [.int .i64 0, .int .i64 20] hr ⟨rfl, rfl⟩ (by kernel_rfl) ?_; clear hr a; intro a hr
    refine wpList_nil ?_
    refine then_normal ?_
    refine wp_ret ?_
    refine then_ret ?_
    refine end_ret2 (v := .int .i64 0) (v' := .int .i64 20) rfl hr (by kernel_rfl) (by kernel_rfl) ?_
    replace H := ej3 H; obtain ⟨rfl, rfl, rfl⟩ := H
    exact ⟨ca1, cc2, ca3, cc4, rfl, h⟩
  ·
    replace H := ifF c7 H
    refine cond_ff hr (b := r5) (bF c7) ?_
    refine wp_skip ?_
    refine then_normal ?_
    refine wp_seq ?_
    refine wp_region_lit ?_
    refine ovs [10, 11, 12] [.pointer (some ⟨B0, 0, none⟩), .pointer (some ⟨B0, 0, none⟩), .pointer (some ⟨B0, 2, none⟩)] hr ⟨rfl, rfl⟩ (by kernel_rfl) ?_; clear hr a; intro a hr
    refine op_val (wn rfl) rfl rfl hr (v := .slice ca1 p0.cell.length cc2) (rl rfl (by kernel_rfl) (by kernel_rfl) (h.cell 2 rfl)) ?_; clear hr a; intro a hr
    replace H := gd H; obtain ⟨c8, H⟩ := H
    refine ov hr (.int .i64 p1) (by kernel_rfl) ?_; clear hr a; intro a hr
    refine op_val (wn rfl) rfl rfl hr (v := .pointer (some ⟨blk ca1, p1.toNat * 1, none⟩)) (ri_row (k := .i64) (E := 2) rfl (by kernel_rfl) (by kernel_rfl) (by kernel_rfl) (by kernel_rfl) (h.pick 1) c8) ?_; clear hr a; intro a hr
    refine op_val (wn rfl) rfl rfl hr (v := .int .i64 (at_ p0.cell p1.toNat)) (rl rfl (by kernel_rfl) (by kernel_rfl) ((h.pick 1).row_cell encZ_i64_ok (f := 0) (at_ok c8) rfl)) ?_; clear hr a; intro a hr
    refine ov hr (.int .i64 (at_ p0.cell p1.toNat)) (by kernel_rfl) ?_; clear hr a; intro a hr
    refine wpList_nil ?_
    refine then_normal ?_
    refine wp_seq ?_
    refine wp_region_lit ?_
    replace H := bd1 H; obtain ⟨S9, e10, H⟩ := H
    refine ovs [17, 18, 19] [.pointer (some ⟨B0, 0, none⟩), .int .i64 p1, .int .i64 (at_ p0.cell p1.toNat)] hr ⟨rfl, rfl⟩ (by kernel_rfl) ?_; clear hr a; intro a hr
    have hc := cells_Arena_note_ok (H := e10) (h := h)
    refine op_call (wn rfl) rfl rfl hr (f := 64) (args := #[.pointer (some ⟨B0, 0, none⟩), .int .i64 0, .int .i64 p1, .int .i64 (at_ p0.cell p1.toNat), .int .i64 0, .bool true]) (by kernel_rfl) hc ?_; clear hc h
    rintro _ w ⟨caq11, ccq12, caq13, ccq14, rfl, h⟩; refine ⟨_, rfl, ?_⟩
    clear hr a; intro a hr
    refine wpList_nil ?_
    refine then_normal ?_
    refine wp_seq ?_
    refine wp_region_lit ?_
    refine ovs [21, 4, 5] [.int .i64 (at_ p0.cell p1.toNat), .int .i64 (at_ p0.cell p1.toNat), .int .i64 0] hr ⟨rfl, rfl⟩ (by kernel_rfl) ?_; clear hr a; intro a hr
    refine wpList_nil ?_
    refine then_normal ?_
    refine wp_ret ?_
    refine end_ret2 (v := .int .i64 (at_ p0.cell p1.toNat)) (v' := .int .i64 0) rfl hr (by kernel_rfl) (by kernel_rfl) ?_
    replace H := ej3 H; obtain ⟨rfl, rfl, rfl⟩ := H
    exact ⟨caq11, ccq12, caq13, ccq14, rfl, h⟩

/-- (*plunder/cells.Arena).Store -/
def cells_Arena_Store (p0 : T_cells_Arena) (p1 : Int) (p2 : Int) : Option (Int × T_cells_Arena) :=
  ob1 (cells_Arena_outside p0 p1) (fun r5 => (if r5 = true then some (20, p0) else if inr_ p1 p0.cell.length then ob1 (cells_Arena_note ({ p0 with cell := p0.cell.set p1.toNat p2 }) 1 p1 p2 0 true) (fun S10 => some (0, S10)) else none))
set_option maxRecDepth 100000 in
set_option maxHeartbeats 4000000 in
theorem cells_Arena_Store_ok {z w : World} {L : List HProp} {p0 : T_cells_Arena} {p1 : Int} {p2 : Int} {B0 : Nat} {ca1 : Option Addr} {cc2 : Nat} {ca3 : Option Addr} {cc4 : Nat} {r0 : Int} {q0 : T_cells_Arena} (H : cells_Arena_Store p0 p1 p2 = some (r0, q0)) (h : Fit z (sepL (ob96 B0 p0 ca1 cc2 ca3 cc4 :: ro2 ca1 cc2 p0.cell :: ro90 ca3 cc4 p0.log :: L)) w)  :
    Calls Try.prog 21 #[.pointer (some ⟨B0, 0, none⟩), .int .i64 p1, .int .i64 p2] w fun e w => ∃ caq0_1 : Option Addr, ∃ ccq0_2 : Nat, ∃ caq0_3 : Option Addr, ∃ ccq0_4 : Nat, e = .returned (.int .i64 r0) ∧ Fit z (sepL (ob96 B0 q0 caq0_1 ccq0_2 caq0_3 ccq0_4 :: ro2 caq0_1 ccq0_2 q0.cell :: ro90 caq0_3 ccq0_4 q0.log :: L)) w := by
  unfold cells_Arena_Store at H
  refine enter Try.func21 rfl 21 rfl rfl [(0, .pointer (some ⟨B0, 0, none⟩)), (1, .int .i64 p1), (2, .int .i64 p2)] ⟨rfl, rfl, rfl, trivial⟩ ?_
  intro j a hr
  refine wp_seq ?_
  refine wp_region_lit ?_
  refine ov hr (.int .i64 0) (by kernel_rfl) ?_; clear hr a; intro a hr
  refine wpList_nil ?_
  refine then_normal ?_
  refine wp_seq ?_
  refine wp_seq ?_
  refine wp_region_lit ?_
  replace H := bd1 H; obtain ⟨r5, e6, H⟩ := H
  refine ovs [7, 8] [.pointer (some ⟨B0, 0, none⟩), .int .i64 p1] hr ⟨rfl, rfl⟩ (by kernel_rfl) ?_; clear hr a; intro a hr
  have hc := cells_Arena_outside_ok (H := e6) (h := h)
  refine op_call (wn rfl) rfl rfl hr (f := 65) (args := #[.pointer (some ⟨B0, 0, none⟩), .int .i64 p1]) (by kernel_rfl) hc ?_; clear hc h
  rintro _ w ⟨rfl, h⟩; refine ⟨_, rfl, ?_⟩
  clear hr a; intro a hr
  refine wpList_nil ?_
  refine then_normal ?_
  by_cases c7 : r5 = true
  ·
    replace H := ifT c7 H
    refine cond_tt hr (b := r5) (c7) ?_
    refine wp_seq ?_
    refine wp_region_lit ?_
    refine ov hr (.int .i64 20) (by kernel_rfl) ?_; clear hr a; intro a hr
    refine wpList_nil ?_
    refine then_normal ?_
    refine wp_ret ?_
    refine then_ret ?_
    refine end_ret1 (v := .int .i64 20) rfl hr (by kernel_rfl) ?_
    replace H := ej2 H; obtain ⟨rfl, rfl⟩ := H
    exact ⟨ca1, cc2, ca3, cc4, rfl, h⟩
  ·
    replace H := ifF c7 H
    refine cond_ff hr (b := r5) (bF c7) ?_
    refine wp_skip ?_
    refine then_normal ?_
    refine wp_seq ?_
    refine wp_region_lit ?_
    refine ovs [10, 11, 12] [.pointer (some ⟨B0, 0, none⟩), .pointer (some ⟨B0, 0, none⟩), .pointer (some ⟨B0, 2, none⟩)] hr ⟨rfl, rfl⟩ (by kernel_rfl) ?_; clear hr a; intro a hr
    refine op_val (wn rfl) rfl rfl hr (v := .slice ca1 p0.cell.length cc2) (rl rfl (by kernel_rfl) (by kernel_rfl) (h.cell 2 rfl)) ?_; clear hr a; intro a hr
    replace H := gd H; obtain ⟨c8, H⟩ := H
    refine ovs [14, 15] [.int .i64 p1, .int .i64 p2] hr ⟨rfl, rfl⟩ (by kernel_rfl) ?_; clear hr a; intro a hr
    refine op_val (wn rfl) rfl rfl hr (v := .pointer (some ⟨blk ca1, p1.toNat * 1, none⟩)) (ri_row (k := .i64) (E := 2) rfl (by kernel_rfl) (by kernel_rfl) (by kernel_rfl) (by kernel_rfl) (h.pick 1) c8) ?_; clear hr a; intro a hr
    replace h : Fit z (sepL (ro2 ca1 cc2 p0.cell :: ob96 B0 p0 ca1 cc2 ca3 cc4 :: ro90 ca3 cc4 p0.log :: L)) _ := h.sel 3 [1, 0, 2] (by kernel_rfl) (by kernel_rfl)
    refine op_store_row (wn rfl) rfl hr rfl (by kernel_rfl) (by kernel_rfl) (v := .int .i64 p2) rfl rfl (by kernel_rfl) encZ_i64_ok h (i := p1.toNat) (f := 0) (p := (at_ p0.cell p1.toNat)) (q := p2) (at_ok c8) (by decide) rfl ?_; clear h; intro w h
    replace h : Fit z (sepL (rowOf 2 1 encZ_i64 (.slice ca1 p0.cell.length cc2) (p0.cell.set p1.toNat p2) :: ob96 B0 p0 ca1 cc2 ca3 cc4 :: ro90 ca3 cc4 p0.log :: L)) _ := h
    refine wpList_nil ?_
    refine then_normal ?_
    refine wp_seq ?_
    refine wp_region_lit ?_
    refine ovs [17, 18, 19] [.pointer (some ⟨B0, 0, none⟩), .int .i64 p1, .int .i64 p2] hr ⟨rfl, rfl⟩ (by kernel_rfl) ?_; clear hr a; intro a hr
    have hn8 := h.row_n
    replace h : Fit z (sepL (ro2 ca1 cc2 (p0.cell.set p1.toNat p2) :: pts B0 (.cells #[.int .i64 p0.ledger_size, .int .i64 p0.ledger_mark, .slice ca1 ((p0.cell.set p1.toNat p2).length) cc2, .slice ca3 p0.log.length cc4, .int .i64 p0.actor, .bool p0.watched] 96) :: ro90 ca3 cc4 p0.log :: L)) w := (congrArg (fun q_ : Nat => Fit z (sepL (rowOf 2 1 encZ_i64 (.slice ca1 q_ cc2) (p0.cell.set p1.toNat p2) :: pts B0 (.cells #[.int .i64 p0.ledger_size, .int .i64 p0.ledger_mark, .slice ca1 q_ cc2, .slice ca3 p0.log.length cc4, .int .i64 p0.actor, .bool p0.watched] 96) :: ro90 ca3 cc4 p0.log :: L)) w) h.row_n).mp h
    replace H := bd1 H; obtain ⟨S10, e11, H⟩ := H
    replace h : Fit z (sepL (pts B0 (.cells #[.int .i64 p0.ledger_size, .int .i64 p0.ledger_mark, .slice ca1 ((p0.cell.set p1.toNat p2).length) cc2, .slice ca3 p0.log.length cc4, .int .i64 p0.actor, .bool p0.watched] 96) :: ro2 ca1 cc2 (p0.cell.set p1.toNat p2) :: ro90 ca3 cc4 p0.log :: L)) _ := h.sel 3 [1, 0, 2] (by kernel_rfl) (by kernel_rfl)
    have hc := cells_Arena_note_ok (H := e11) (h := h)
    refine op_call (wn rfl) rfl rfl hr (f := 64) (args := #[.pointer (some ⟨B0, 0, none⟩), .int .i64 1, .int .i64 p1, .int .i64 p2, .int .i64 0, .bool true]) (by kernel_rfl) hc ?_; clear hc h
    rintro _ w ⟨caq12, ccq13, caq14, ccq15, rfl, h⟩; refine ⟨_, rfl, ?_⟩
    clear hr a; intro a hr
    refine wpList_nil ?_
    refine then_normal ?_
    refine wp_seq ?_
    refine wp_region_lit ?_
    refine ov hr (.int .i64 0) (by kernel_rfl) ?_; clear hr a; intro a hr
    refine wpList_nil ?_
    refine then_normal ?_
    refine wp_ret ?_
    refine end_ret1 (v := .int .i64 0) rfl hr (by kernel_rfl) ?_
    replace H := ej2 H; obtain ⟨rfl, rfl⟩ := H
    exact ⟨caq12, ccq13, caq14, ccq15, rfl, h⟩

/-- (*plunder/cells.Arena).CAS -/
def cells_Arena_CAS (p0 : T_cells_Arena) (p1 : Int) (p2 : Int) (p3 : Int) : Option (Bool × Int × T_cells_Arena) :=
  ob1 (cells_Arena_outside p0 p1) (fun r5 => (if r5 = true then some (false, 20, p0) else if inr_ p1 p0.cell.length then (if (at_ p0.cell p1.toNat) = p2 then ob1 (cells_Arena_note ({ p0 with cell := p0.cell.set p1.toNat p3 }) 2 p1 p2 p3 ((at_ p0.cell p1.toNat) == p2)) (fun S11 => some ((at_ p0.cell p1.toNat) == p2, 0, S11)) else ob1 (cells_Arena_note p0 2 p1 p2 p3 ((at_ p0.cell p1.toNat) == p2)) (fun S17 => some ((at_ p0.cell p1.toNat) == p2, 0, S17))) else none))
set_option maxRecDepth 100000 in
set_option maxHeartbeats 4000000 in
theorem cells_Arena_CAS_ok {z w : World} {L : List HProp} {p0 : T_cells_Arena} {p1 : Int} {p2 : Int} {p3 : Int} {B0 : Nat} {ca1 : Option Addr} {cc2 : Nat} {ca3 : Option Addr} {cc4 : Nat} {r0 : Bool} {r1 : Int} {q0 : T_cells_Arena} (H : cells_Arena_CAS p0 p1 p2 p3 = some (r0, r1, q0)) (h : Fit z (sepL (ob96 B0 p0 ca1 cc2 ca3 cc4 :: ro2 ca1 cc2 p0.cell :: ro90 ca3 cc4 p0.log :: L)) w)  :
    Calls Try.prog 67 #[.pointer (some ⟨B0, 0, none⟩), .int .i64 p1, .int .i64 p2, .int .i64 p3] w fun e w => ∃ caq0_1 : Option Addr, ∃ ccq0_2 : Nat, ∃ caq0_3 : Option Addr, ∃ ccq0_4 : Nat, e = .returned (.tuple #[.bool r0, .int .i64 r1]) ∧ Fit z (sepL (ob96 B0 q0 caq0_1 ccq0_2 caq0_3 ccq0_4 :: ro2 caq0_1 ccq0_2 q0.cell :: ro90 caq0_3 ccq0_4 q0.log :: L)) w := by
  unfold cells_Arena_CAS at H
  refine enter Try.func67 rfl 38 rfl rfl [(0, .pointer (some ⟨B0, 0, none⟩)), (1, .int .i64 p1), (2, .int .i64 p2), (3, .int .i64 p3)] ⟨rfl, rfl, rfl, rfl, trivial⟩ ?_
  intro j a hr
  refine wp_seq ?_
  refine wp_region_lit ?_
  refine ovs [8, 9] [.bool false, .int .i64 0] hr ⟨rfl, rfl⟩ (by kernel_rfl) ?_; clear hr a; intro a hr
  refine wpList_nil ?_
  refine then_normal ?_
  refine wp_seq ?_
  refine wp_seq ?_
  refine wp_region_lit ?_
  replace H := bd1 H; obtain ⟨r5, e6, H⟩ := H
  refine ovs [11, 12] [.pointer (some ⟨B0, 0, none⟩), .int .i64 p1] hr ⟨rfl, rfl⟩ (by kernel_rfl) ?_; clear hr a; intro a hr
  have hc := cells_Arena_outside_ok (H := e6) (h := h)
  refine op_call (wn rfl) rfl rfl hr (f := 65) (args := #[.pointer (some ⟨B0, 0, none⟩), .int .i64 p1]) (by kernel_rfl) hc ?_; clear hc h
  rintro _ w ⟨rfl, h⟩; refine ⟨_, rfl, ?_⟩
  clear hr a; intro a hr
  refine wpList_nil ?_
  refine then_normal ?_
  by_cases c7 : r5 = true
  ·
    replace H := ifT c7 H
    refine cond_tt hr (b := r5) (c7) ?_
    refine wp_seq ?_
    refine wp_region_lit ?_
    refine ovs [8, 9] [.bool false, .int .i64 20] hr ⟨rfl, rfl⟩ (by kernel_rfl) ?_; clear hr a; intro a hr
    refine wpList_nil ?_
    refine then_normal ?_
    refine wp_ret ?_
    refine then_ret ?_
    refine end_ret2 (v := .bool false) (v' := .int .i64 20) rfl hr (by kernel_rfl) (by kernel_rfl) ?_
    replace H := ej3 H; obtain ⟨rfl, rfl, rfl⟩ := H
    exact ⟨ca1, cc2, ca3, cc4, rfl, h⟩
  ·
    replace H := ifF c7 H
    refine cond_ff hr (b := r5) (bF c7) ?_
    refine wp_skip ?_
    refine then_normal ?_
    refine wp_seq ?_
    refine wp_region_lit ?_
    refine ovs [14, 15, 16] [.pointer (some ⟨B0, 0, none⟩), .pointer (some ⟨B0, 0, none⟩), .pointer (some ⟨B0, 2, none⟩)] hr ⟨rfl, rfl⟩ (by kernel_rfl) ?_; clear hr a; intro a hr
    refine op_val (wn rfl) rfl rfl hr (v := .slice ca1 p0.cell.length cc2) (rl rfl (by kernel_rfl) (by kernel_rfl) (h.cell 2 rfl)) ?_; clear hr a; intro a hr
    replace H := gd H; obtain ⟨c8, H⟩ := H
    refine ov hr (.int .i64 p1) (by kernel_rfl) ?_; clear hr a; intro a hr
    refine op_val (wn rfl) rfl rfl hr (v := .pointer (some ⟨blk ca1, p1.toNat * 1, none⟩)) (ri_row (k := .i64) (E := 2) rfl (by kernel_rfl) (by kernel_rfl) (by kernel_rfl) (by kernel_rfl) (h.pick 1) c8) ?_; clear hr a; intro a hr
    refine op_val (wn rfl) rfl rfl hr (v := .int .i64 (at_ p0.cell p1.toNat)) (rl rfl (by kernel_rfl) (by kernel_rfl) ((h.pick 1).row_cell encZ_i64_ok (f := 0) (at_ok c8) rfl)) ?_; clear hr a; intro a hr
    refine ovs [21, 22, 10] [.int .i64 p2, .bool ((at_ p0.cell p1.toNat) == p2), .bool ((at_ p0.cell p1.toNat) == p2)] hr ⟨rfl, rfl⟩ (by kernel_rfl) ?_; clear hr a; intro a hr
    refine wpList_nil ?_
    refine then_normal ?_
    refine wp_seq ?_
    refine wp_seq ?_
    refine wp_region_lit ?_
    refine ov hr (.bool ((at_ p0.cell p1.toNat) == p2)) (by kernel_rfl) ?_; clear hr a; intro a hr
    refine wpList_nil ?_
    refine then_normal ?_
    by_cases c9 : (at_ p0.cell p1.toNat) = p2
    ·
      replace H := ifT c9 H
      refine cond_tt hr (b := ((at_ p0.cell p1.toNat) == p2)) (beq_iff_eq.mpr c9) ?_
      refine wp_region_lit ?_
      refine ovs [24, 25, 26] [.pointer (some ⟨B0, 0, none⟩), .pointer (some ⟨B0, 0, none⟩), .pointer (some ⟨B0, 2, none⟩)] hr ⟨rfl, rfl⟩ (by kernel_rfl) ?_; clear hr a; intro a hr
      refine op_val (wn rfl) rfl rfl hr (v := .slice ca1 p0.cell.length cc2) (rl rfl (by kernel_rfl) (by kernel_rfl) (h.cell 2 rfl)) ?_; clear hr a; intro a hr
      refine ovs [28, 29] [.int .i64 p1, .int .i64 p3] hr ⟨rfl, rfl⟩ (by kernel_rfl) ?_; clear hr a; intro a hr
      refine op_val (wn rfl) rfl rfl hr (v := .pointer (some ⟨blk ca1, p1.toNat * 1, none⟩)) (ri_row (k := .i64) (E := 2) rfl (by kernel_rfl) (by kernel_rfl) (by kernel_rfl) (by kernel_rfl) (h.pick 1) c8) ?_; clear hr a; intro a hr
      replace h : Fit z (sepL (ro2 ca1 cc2 p0.cell :: ob96 B0 p0 ca1 cc2 ca3 cc4 :: ro90 ca3 cc4 p0.log :: L)) _ := h.sel 3 [1, 0, 2] (by kernel_rfl) (by kernel_rfl)
      refine op_store_row (wn rfl) rfl hr rfl (by kernel_rfl) (by kernel_rfl) (v := .int .i64 p3) rfl rfl (by kernel_rfl) encZ_i64_ok h (i := p1.toNat) (f := 0) (p := (at_ p0.cell p1.toNat)) (q := p3) (at_ok c8) (by decide) rfl ?_; clear h; intro w h
      replace h : Fit z (sepL (rowOf 2 1 encZ_i64 (.slice ca1 p0.cell.length cc2) (p0.cell.set p1.toNat p3) :: ob96 B0 p0 ca1 cc2 ca3 cc4 :: ro90 ca3 cc4 p0.log :: L)) _ := h
      refine wpList_nil ?_
      refine then_normal ?_
      refine wp_seq ?_
      refine wp_region_lit ?_
      refine ovs [31, 32, 33, 34, 35] [.pointer (some ⟨B0, 0, none⟩), .int .i64 p1, .int .i64 p2, .int .i64 p3, .bool ((at_ p0.cell p1.toNat) == p2)] hr ⟨rfl, rfl⟩ (by kernel_rfl) ?_; clear hr a; intro a hr
      have hn9 := h.row_n
      replace h : Fit z (sepL (ro2 ca1 cc2 (p0.cell.set p1.toNat p3) :: pts B0 (.cells #[.int .i64 p0.ledger_size, .int .i64 p0.ledger_mark, .slice ca1 ((p0.cell.set p1.toNat p3).length) cc2, .slice ca3 p0.log.length cc4, .int .i64 p0.actor, .bool p0.watched] 96) :: ro90 ca3 cc4 p0.log :: L)) w := (congrArg (fun q_ : Nat => Fit z (sepL (rowOf 2 1 encZ_i64 (.slice ca1 q_ cc2) (p0.cell.set p1.toNat p3) :: pts B0 (.cells #[.int .i64 p0.ledger_size, .int .i64 p0.ledger_mark, .slice ca1 q_ cc2, .slice ca3 p0.log.length cc4, .int .i64 p0.actor, .bool p0.watched] 96) :: ro90 ca3 cc4 p0.log :: L)) w) h.row_n).mp h
      replace H := bd1 H; obtain ⟨S11, e12, H⟩ := H
      replace h : Fit z (sepL (pts B0 (.cells #[.int .i64 p0.ledger_size, .int .i64 p0.ledger_mark, .slice ca1 ((p0.cell.set p1.toNat p3).length) cc2, .slice ca3 p0.log.length cc4, .int .i64 p0.actor, .bool p0.watched] 96) :: ro2 ca1 cc2 (p0.cell.set p1.toNat p3) :: ro90 ca3 cc4 p0.log :: L)) _ := h.sel 3 [1, 0, 2] (by kernel_rfl) (by kernel_rfl)
      have hc := cells_Arena_note_ok (H := e12) (h := h)
      refine op_call (wn rfl) rfl rfl hr (f := 64) (args := #[.pointer (some ⟨B0, 0, none⟩), .int .i64 2, .int .i64 p1, .int .i64 p2, .int .i64 p3, .bool ((at_ p0.cell p1.toNat) == p2)]) (by kernel_rfl) hc ?_; clear hc h
      rintro _ w ⟨caq13, ccq14, caq15, ccq16, rfl, h⟩; refine ⟨_, rfl, ?_⟩
      clear hr a; intro a hr
      refine wpList_nil ?_
      refine then_normal ?_
      refine wp_seq ?_
      refine wp_region_lit ?_
      refine ovs [37, 8, 9] [.bool ((at_ p0.cell p1.toNat) == p2), .bool ((at_ p0.cell p1.toNat) == p2), .int .i64 0] hr ⟨rfl, rfl⟩ (by kernel_rfl) ?_; clear hr a; intro a hr
      refine wpList_nil ?_
      refine then_normal ?_
      refine wp_ret ?_
      refine end_ret2 (v := .bool ((at_ p0.cell p1.toNat) == p2)) (v' := .int .i64 0) rfl hr (by kernel_rfl) (by kernel_rfl) ?_
      replace H := ej3 H; obtain ⟨rfl, rfl, rfl⟩ := H
      exact ⟨caq13, ccq14, caq15, ccq16, rfl, h⟩
    ·
      replace H := ifF c9 H
      refine cond_ff hr (b := ((at_ p0.cell p1.toNat) == p2)) (beq_eq_false_iff_ne.mpr c9) ?_
      refine wp_skip ?_
      refine then_normal ?_
      refine wp_seq ?_
      refine wp_region_lit ?_
      replace H := bd1 H; obtain ⟨S17, e18, H⟩ := H
      refine ovs [31, 32, 33, 34, 35] [.pointer (some ⟨B0, 0, none⟩), .int .i64 p1, .int .i64 p2, .int .i64 p3, .bool ((at_ p0.cell p1.toNat) == p2)] hr ⟨rfl, rfl⟩ (by kernel_rfl) ?_; clear hr a; intro a hr
      have hc := cells_Arena_note_ok (H := e18) (h := h)
      refine op_call (wn rfl) rfl rfl hr (f := 64) (args := #[.pointer (some ⟨B0, 0, none⟩), .int .i64 2, .int .i64 p1, .int .i64 p2, .int .i64 p3, .bool ((at_ p0.cell p1.toNat) == p2)]) (by kernel_rfl) hc ?_; clear hc h
      rintro _ w ⟨caq19, ccq20, caq21, ccq22, rfl, h⟩; refine ⟨_, rfl, ?_⟩
      clear hr a; intro a hr
      refine wpList_nil ?_
      refine then_normal ?_
      refine wp_seq ?_
      refine wp_region_lit ?_
      refine ovs [37, 8, 9] [.bool ((at_ p0.cell p1.toNat) == p2), .bool ((at_ p0.cell p1.toNat) == p2), .int .i64 0] hr ⟨rfl, rfl⟩ (by kernel_rfl) ?_; clear hr a; intro a hr
      refine wpList_nil ?_
      refine then_normal ?_
      refine wp_ret ?_
      refine end_ret2 (v := .bool ((at_ p0.cell p1.toNat) == p2)) (v' := .int .i64 0) rfl hr (by kernel_rfl) (by kernel_rfl) ?_
      replace H := ej3 H; obtain ⟨rfl, rfl, rfl⟩ := H
      exact ⟨caq19, ccq20, caq21, ccq22, rfl, h⟩

/-- (*plunder/cells.Arena).Add -/
def cells_Arena_Add (p0 : T_cells_Arena) (p1 : Int) (p2 : Int) : Option (Int × Int × T_cells_Arena) :=
  ob1 (cells_Arena_outside p0 p1) (fun r5 => (if r5 = true then some (0, 20, p0) else if inr_ p1 p0.cell.length then if inr_ p1 (p0.cell.set p1.toNat (wi ((at_ p0.cell p1.toNat) + p2))).length then ob1 (cells_Arena_note ({ p0 with cell := p0.cell.set p1.toNat (wi ((at_ p0.cell p1.toNat) + p2)) }) 3 p1 p2 (wi ((at_ p0.cell p1.toNat) + p2)) true) (fun S11 => if inr_ p1 S11.cell.length then some ((at_ S11.cell p1.toNat), 0, S11) else none) else none else none))
set_option maxRecDepth 100000 in
set_option maxHeartbeats 4000000 in
theorem cells_Arena_Add_ok {z w : World} {L : List HProp} {p0 : T_cells_Arena} {p1 : Int} {p2 : Int} {B0 : Nat} {ca1 : Option Addr} {cc2 : Nat} {ca3 : Option Addr} {cc4 : Nat} {r0 : Int} {r1 : Int} {q0 : T_cells_Arena} (H : cells_Arena_Add p0 p1 p2 = some (r0, r1, q0)) (h : Fit z (sepL (ob96 B0 p0 ca1 cc2 ca3 cc4 :: ro2 ca1 cc2 p0.cell :: ro90 ca3 cc4 p0.log :: L)) w)  :
    Calls Try.prog 68 #[.pointer (some ⟨B0, 0, none⟩), .int .i64 p1, .int .i64 p2] w fun e w => ∃ caq0_1 : Option Addr, ∃ ccq0_2 : Nat, ∃ caq0_3 : Option Addr, ∃ ccq0_4 : Nat, e = .returned (.tuple #[.int .i64 r0, .int .i64 r1]) ∧ Fit z (sepL (ob96 B0 q0 caq0_1 ccq0_2 caq0_3 ccq0_4 :: ro2 caq0_1 ccq0_2 q0.cell :: ro90 caq0_3 ccq0_4 q0.log :: L)) w := by
  unfold cells_Arena_Add at H
  refine enter Try.func68 rfl 39 rfl rfl [(0, .pointer (some ⟨B0, 0, none⟩)), (1, .int .i64 p1), (2, .int .i64 p2)] ⟨rfl, rfl, rfl, trivial⟩ ?_
  intro j a hr
  refine wp_seq ?_
  refine wp_region_lit ?_
  refine ovs [6, 7] [.int .i64 0, .int .i64 0] hr ⟨rfl, rfl⟩ (by kernel_rfl) ?_; clear hr a; intro a hr
  refine wpList_nil ?_
  refine then_normal ?_
  refine wp_seq ?_
  refine wp_seq ?_
  refine wp_region_lit ?_
  replace H := bd1 H; obtain ⟨r5, e6, H⟩ := H
  refine ovs [8, 9] [.pointer (some ⟨B0, 0, none⟩), .int .i64 p1] hr ⟨rfl, rfl⟩ (by kernel_rfl) ?_; clear hr a; intro a hr
  have hc := cells_Arena_outside_ok (H := e6) (h := h)
  refine op_call (wn rfl) rfl rfl hr (f := 65) (args := #[.pointer (some ⟨B0, 0, none⟩), .int .i64 p1]) (by kernel_rfl) hc ?_; clear hc h
  rintro _ w ⟨rfl, h⟩; refine ⟨_, rfl, ?_⟩
  clear hr a; intro a hr
  refine wpList_nil ?_
  refine then_normal ?_
  by_cases c7 : r5 = true
  ·
    replace H := ifT c7 H
    refine cond_tt hr (b := r5) (c7) ?_
    refine wp_seq ?_
    refine wp_region_lit ?_
    refine ovs [6, 7] [.int .i64 0, .int .i64 20] hr ⟨rfl, rfl⟩ (by kernel_rfl) ?_; clear hr a; intro a hr
    refine wpList_nil ?_
    refine then_normal ?_
    refine wp_ret ?_
    refine then_ret ?_
    refine end_ret2 (v := .int .i64 0) (v' := .int .i64 20) rfl hr (by kernel_rfl) (by kernel_rfl) ?_
    replace H := ej3 H; obtain ⟨rfl, rfl, rfl⟩ := H
    exact ⟨ca1, cc2, ca3, cc4, rfl, h⟩
  ·
    replace H := ifF c7 H
    refine cond_ff hr (b := r5) (bF c7) ?_
    refine wp_skip ?_
    refine then_normal ?_
    refine wp_seq ?_
    refine wp_region_lit ?_
    refine ovs [11, 12, 13] [.pointer (some ⟨B0, 0, none⟩), .pointer (some ⟨B0, 0, none⟩), .pointer (some ⟨B0, 2, none⟩)] hr ⟨rfl, rfl⟩ (by kernel_rfl) ?_; clear hr a; intro a hr
    refine op_val (wn rfl) rfl rfl hr (v := .slice ca1 p0.cell.length cc2) (rl rfl (by kernel_rfl) (by kernel_rfl) (h.cell 2 rfl)) ?_; clear hr a; intro a hr
    replace H := gd H; obtain ⟨c8, H⟩ := H
    refine ov hr (.int .i64 p1) (by kernel_rfl) ?_; clear hr a; intro a hr
    refine op_val (wn rfl) rfl rfl hr (v := .pointer (some ⟨blk ca1, p1.toNat * 1, none⟩)) (ri_row (k := .i64) (E := 2) rfl (by kernel_rfl) (by kernel_rfl) (by kernel_rfl) (by kernel_rfl) (h.pick 1) c8) ?_; clear hr a; intro a hr
    refine op_val (wn rfl) rfl rfl hr (v := .int .i64 (at_ p0.cell p1.toNat)) (rl rfl (by kernel_rfl) (by kernel_rfl) ((h.pick 1).row_cell encZ_i64_ok (f := 0) (at_ok c8) rfl)) ?_; clear hr a; intro a hr
    refine ovs [18, 19] [.int .i64 p2, .int .i64 (wi ((at_ p0.cell p1.toNat) + p2))] hr ⟨rfl, rfl⟩ (by kernel_rfl) ?_; clear hr a; intro a hr
    refine op_val (wn rfl) rfl rfl hr (v := .pointer (some ⟨blk ca1, p1.toNat * 1, none⟩)) (ri_row (k := .i64) (E := 2) rfl (by kernel_rfl) (by kernel_rfl) (by kernel_rfl) (by kernel_rfl) (h.pick 1) c8) ?_; clear hr a; intro a hr
    replace h : Fit z (sepL (ro2 ca1 cc2 p0.cell :: ob96 B0 p0 ca1 cc2 ca3 cc4 :: ro90 ca3 cc4 p0.log :: L)) _ := h.sel 3 [1, 0, 2] (by kernel_rfl) (by kernel_rfl)
    refine op_store_row (wn rfl) rfl hr rfl (by kernel_rfl) (by kernel_rfl) (v := .int .i64 (wi ((at_ p0.cell p1.toNat) + p2))) rfl rfl (by kernel_rfl) encZ_i64_ok h (i := p1.toNat) (f := 0) (p := (at_ p0.cell p1.toNat)) (q := (wi ((at_ p0.cell p1.toNat) + p2))) (at_ok c8) (by decide) rfl ?_; clear h; intro w h
    replace h : Fit z (sepL (rowOf 2 1 encZ_i64 (.slice ca1 p0.cell.length cc2) (p0.cell.set p1.toNat (wi ((at_ p0.cell p1.toNat) + p2))) :: ob96 B0 p0 ca1 cc2 ca3 cc4 :: ro90 ca3 cc4 p0.log :: L)) _ := h
    refine wpList_nil ?_
    refine then_normal ?_
    refine wp_seq ?_
    refine wp_region_lit ?_
    refine ovs [21, 22, 23, 24, 25, 26] [.pointer (some ⟨B0, 0, none⟩), .int .i64 p1, .int .i64 p2, .pointer (some ⟨B0, 0, none⟩), .pointer (some ⟨B0, 0, none⟩), .pointer (some ⟨B0, 2, none⟩)] hr ⟨rfl, rfl⟩ (by kernel_rfl) ?_; clear hr a; intro a hr
    refine op_val (wn rfl) rfl rfl hr (v := .slice ca1 p0.cell.length cc2) (rl rfl (by kernel_rfl) (by kernel_rfl) ((h.pick 1).cell 2 rfl)) ?_; clear hr a; intro a hr
    replace H := gd H; obtain ⟨c9, H⟩ := H
    refine ov hr (.int .i64 p1) (by kernel_rfl) ?_; clear hr a; intro a hr
    refine op_val (wn rfl) rfl rfl hr (v := .pointer (some ⟨blk ca1, p1.toNat * 1, none⟩)) (ri_row (k := .i64) (E := 2) rfl (by kernel_rfl) (by kernel_rfl) (by kernel_rfl) (by kernel_rfl) h c9) ?_; clear hr a; intro a hr
    refine op_val (wn rfl) rfl rfl hr (v := .int .i64 (wi ((at_ p0.cell p1.toNat) + p2))) (rl rfl (by kernel_rfl) (by kernel_rfl) (h.row_cell encZ_i64_ok (f := 0) (get_set ((at_okL (by simpa [inr_] using c9)))) rfl)) ?_; clear hr a; intro a hr
    have hn9 := h.row_n
    replace h : Fit z (sepL (ro2 ca1 cc2 (p0.cell.set p1.toNat (wi ((at_ p0.cell p1.toNat) + p2))) :: pts B0 (.cells #[.int .i64 p0.ledger_size, .int .i64 p0.ledger_mark, .slice ca1 ((p0.cell.set p1.toNat (wi ((at_ p0.cell p1.toNat) + p2))).length) cc2, .slice ca3 p0.log.length cc4, .int .i64 p0.actor, .bool p0.watched] 96) :: ro90 ca3 cc4 p0.log :: L)) w := (congrArg (fun q_ : Nat => Fit z (sepL (rowOf 2 1 encZ_i64 (.slice ca1 q_ cc2) (p0.cell.set p1.toNat (wi ((at_ p0.cell p1.toNat) + p2))) :: pts B0 (.cells #[.int .i64 p0.ledger_size, .int .i64 p0.ledger_mark, .slice ca1 q_ cc2, .slice ca3 p0.log.length cc4, .int .i64 p0.actor, .bool p0.watched] 96) :: ro90 ca3 cc4 p0.log :: L)) w) h.row_n).mp h
    replace H := bd1 H; obtain ⟨S11, e12, H⟩ := H
    replace h : Fit z (sepL (pts B0 (.cells #[.int .i64 p0.ledger_size, .int .i64 p0.ledger_mark, .slice ca1 ((p0.cell.set p1.toNat (wi ((at_ p0.cell p1.toNat) + p2))).length) cc2, .slice ca3 p0.log.length cc4, .int .i64 p0.actor, .bool p0.watched] 96) :: ro2 ca1 cc2 (p0.cell.set p1.toNat (wi ((at_ p0.cell p1.toNat) + p2))) :: ro90 ca3 cc4 p0.log :: L)) _ := h.sel 3 [1, 0, 2] (by kernel_rfl) (by kernel_rfl)
    have hc := cells_Arena_note_ok (H := e12) (h := h)
    refine op_call (wn rfl) rfl rfl hr (f := 64) (args := #[.pointer (some ⟨B0, 0, none⟩), .int .i64 3, .int .i64 p1, .int .i64 p2, .int .i64 (wi ((at_ p0.cell p1.toNat) + p2)), .bool true]) (by kernel_rfl) hc ?_; clear hc h
    rintro _ w ⟨caq13, ccq14, caq15, ccq16, rfl, h⟩; refine ⟨_, rfl, ?_⟩
    clear hr a; intro a hr
    refine wpList_nil ?_
    refine then_normal ?_
    refine wp_seq ?_
    refine wp_region_lit ?_
    refine ovs [32, 33, 34] [.pointer (some ⟨B0, 0, none⟩), .pointer (some ⟨B0, 0, none⟩), .pointer (some ⟨B0, 2, none⟩)] hr ⟨rfl, rfl⟩ (by kernel_rfl) ?_; clear hr a; intro a hr
    refine op_val (wn rfl) rfl rfl hr (v := .slice caq13 S11.cell.length ccq14) (rl rfl (by kernel_rfl) (by kernel_rfl) (h.cell 2 rfl)) ?_; clear hr a; intro a hr
    replace H := gd H; obtain ⟨c17, H⟩ := H
    refine ov hr (.int .i64 p1) (by kernel_rfl) ?_; clear hr a; intro a hr
    refine op_val (wn rfl) rfl rfl hr (v := .pointer (some ⟨blk caq13, p1.toNat * 1, none⟩)) (ri_row (k := .i64) (E := 2) rfl (by kernel_rfl) (by kernel_rfl) (by kernel_rfl) (by kernel_rfl) (h.pick 1) c17) ?_; clear hr a; intro a hr
    refine op_val (wn rfl) rfl rfl hr (v := .int .i64 (at_ S11.cell p1.toNat)) (rl rfl (by kernel_rfl) (by kernel_rfl) ((h.pick 1).row_cell encZ_i64_ok (f := 0) (at_ok c17) rfl)) ?_; clear hr a; intro a hr
    refine ovs [6, 7] [.int .i64 (at_ S11.cell p1.toNat), .int .i64 0] hr ⟨rfl, rfl⟩ (by kernel_rfl) ?_; clear hr a; intro a hr
    refine wpList_nil ?_
    refine then_normal ?_
    refine wp_ret ?_
    refine end_ret2 (v := .int .i64 (at_ S11.cell p1.toNat)) (v' := .int .i64 0) rfl hr (by kernel_rfl) (by kernel_rfl) ?_
    replace H := ej3 H; obtain ⟨rfl, rfl, rfl⟩ := H
    exact ⟨caq13, ccq14, caq15, ccq16, rfl, h⟩

/-- (*plunder/cells.ledger).refuse -/
def cells_ledger_refuse (p0 : T_cells_Arena) (p1 : Int) : Option (Int) :=
  (if p1 < (1 : Int) then some 21 else (if p1 > (wi (p0.ledger_size - p0.ledger_mark)) then some 22 else some 0))
set_option maxRecDepth 100000 in
set_option maxHeartbeats 4000000 in
theorem cells_ledger_refuse_ok {z w : World} {L : List HProp} {p0 : T_cells_Arena} {p1 : Int} {B0 : Nat} {ca1 : Option Addr} {cc2 : Nat} {ca3 : Option Addr} {cc4 : Nat} {r0 : Int} (H : cells_ledger_refuse p0 p1 = some r0) (h : Fit z (sepL (ob96 B0 p0 ca1 cc2 ca3 cc4 :: ro2 ca1 cc2 p0.cell :: ro90 ca3 cc4 p0.log :: L)) w)  :
    Calls Try.prog 62 #[.pointer (some ⟨B0, 0, none⟩), .int .i64 p1] w fun e w => e = .returned (.int .i64 r0) ∧ Fit z (sepL (ob96 B0 p0 ca1 cc2 ca3 cc4 :: ro2 ca1 cc2 p0.cell :: ro90 ca3 cc4 p0.log :: L)) w := by
  unfold cells_ledger_refuse at H
  refine enter Try.func62 rfl 22 rfl rfl [(0, .pointer (some ⟨B0, 0, none⟩)), (1, .int .i64 p1)] ⟨rfl, rfl, trivial⟩ ?_
  intro j a hr
  refine wp_seq ?_
  refine wp_region_lit ?_
  refine ov hr (.int .i64 0) (by kernel_rfl) ?_; clear hr a; intro a hr
  refine wpList_nil ?_
  refine then_normal ?_
  refine wp_seq ?_
  refine wp_seq ?_
  refine wp_region_lit ?_
  refine ovs [5, 6] [.int .i64 p1, .bool (decide (p1 < (1 : Int)))] hr ⟨rfl, rfl⟩ (by kernel_rfl) ?_; clear hr a; intro a hr
  refine wpList_nil ?_
  refine then_normal ?_
  by_cases c5 : p1 < (1 : Int)
  ·
    replace H := ifT c5 H
    refine cond_tt hr (b := (decide (p1 < (1 : Int)))) (decide_eq_true c5) ?_
    refine wp_seq ?_
    refine wp_region_lit ?_
    refine ov hr (.int .i64 21) (by kernel_rfl) ?_; clear hr a; intro a hr
    refine wpList_nil ?_
    refine then_normal ?_
    refine wp_ret ?_
    refine then_ret ?_
    refine end_ret1 (v := .int .i64 21) rfl hr (by kernel_rfl) ?_
    replace H := ej1 H; subst H
    exact ⟨rfl, h⟩
  ·
    replace H := ifF c5 H
    refine cond_ff hr (b := (decide (p1 < (1 : Int)))) (decide_eq_false c5) ?_
    refine wp_skip ?_
    refine then_normal ?_
    refine wp_seq ?_
    refine wp_seq ?_
    refine reg_E (fun w => heldC w B0 0 [.int .i64 p0.ledger_size] ∧ heldC w B0 1 [.int .i64 p0.ledger_mark] ∧ True) [1, 5, 6, 9, 10] h (by kernel_rfl) ?_; intro w h
    change wpAnyE _ _ _ _ _ _ 15 (Array.replicate 15 false) a w
    have hgo : ∀ w w', CellsGo w w' → (heldC w B0 0 [.int .i64 p0.ledger_size] ∧ heldC w B0 1 [.int .i64 p0.ledger_mark] ∧ True) → heldC w' B0 0 [.int .i64 p0.ledger_size] ∧ heldC w' B0 1 [.int .i64 p0.ledger_mark] ∧ True := fun w w' g hD => ⟨heldC_go _ _ _ _ _ g hD.1, heldC_go _ _ _ _ _ g hD.2.1, trivial⟩
    refine ev 14 0 rfl (by kernel_rfl) (wn rfl) hr (.pointer (some ⟨B0, 0, none⟩)) (fun w => by kernel_rfl) ?_; clear hr a; intro a hr
    refine evD hgo ⟨⟨h.cell 0 rfl, trivial⟩, ⟨h.cell 1 rfl, trivial⟩, trivial⟩ 13 1 rfl (by kernel_rfl) (wn rfl) hr (.bool false) (fun w => by kernel_rfl) ?_; clear hr a; intro a hr
    refine ev 12 2 rfl (by kernel_rfl) (wn rfl) hr (.bool false) (fun w => by kernel_rfl) ?_; clear hr a; intro a hr
    refine ev 11 3 rfl (by kernel_rfl) ((wg hr rfl rfl rfl (b' := false) (by kernel_rfl)).trans rfl) hr (.int .i64 p1) (fun w => by kernel_rfl) ?_; clear hr a; intro a hr
    refine ev 10 4 rfl (by kernel_rfl) ((wg hr rfl rfl rfl (b' := false) (by kernel_rfl)).trans rfl) hr (.pointer (some ⟨B0, 0, none⟩)) (fun w => by kernel_rfl) ?_; clear hr a; intro a hr
    refine evD hgo ⟨⟨h.cell 0 rfl, trivial⟩, ⟨h.cell 1 rfl, trivial⟩, trivial⟩ 9 5 rfl (by kernel_rfl) ((wg hr rfl rfl rfl (b' := false) (by kernel_rfl)).trans rfl) hr (.pointer (some ⟨B0, 0, none⟩)) (fun w => by kernel_rfl) ?_; clear hr a; intro a hr
    refine evD hgo ⟨⟨h.cell 0 rfl, trivial⟩, ⟨h.cell 1 rfl, trivial⟩, trivial⟩ 8 6 rfl (by kernel_rfl) ((wg hr rfl rfl rfl (b' := false) (by kernel_rfl)).trans rfl) hr (.pointer (some ⟨B0, 0, none⟩)) (fun w => by kernel_rfl) ?_; clear hr a; intro a hr
    refine ev 7 8 rfl (by kernel_rfl) ((wg hr rfl rfl rfl (b' := false) (by kernel_rfl)).trans rfl) hr (.pointer (some ⟨B0, 0, none⟩)) (fun w => by kernel_rfl) ?_; clear hr a; intro a hr
    refine evD hgo ⟨⟨h.cell 0 rfl, trivial⟩, ⟨h.cell 1 rfl, trivial⟩, trivial⟩ 6 9 rfl (by kernel_rfl) ((wg hr rfl rfl rfl (b' := false) (by kernel_rfl)).trans rfl) hr (.pointer (some ⟨B0, 0, none⟩)) (fun w => by kernel_rfl) ?_; clear hr a; intro a hr
    refine evD hgo ⟨⟨h.cell 0 rfl, trivial⟩, ⟨h.cell 1 rfl, trivial⟩, trivial⟩ 5 10 rfl (by kernel_rfl) ((wg hr rfl rfl rfl (b' := false) (by kernel_rfl)).trans rfl) hr (.pointer (some ⟨B0, 1, none⟩)) (fun w => by kernel_rfl) ?_; clear hr a; intro a hr
    refine el [1, 5, 6, 9, 10] (b := B0) (off := 0) (cs := [.int .i64 p0.ledger_size]) (fun _ hk => ⟨hk, fun w hD => hD.1⟩) 4 7 rfl (by kernel_rfl) ((wg hr rfl rfl rfl (b' := false) (by kernel_rfl)).trans rfl) hr (.int .i64 p0.ledger_size) ⟨h.cell 0 rfl, trivial⟩ (fun w hc => rl rfl (by kernel_rfl) (by kernel_rfl) hc.1) ?_; clear hr a; intro a hr
    refine el [1, 5, 6, 9, 10] (b := B0) (off := 1) (cs := [.int .i64 p0.ledger_mark]) (fun _ hk => ⟨hk, fun w hD => hD.2.1⟩) 3 11 rfl (by kernel_rfl) ((wg hr rfl rfl rfl (b' := false) (by kernel_rfl)).trans rfl) hr (.int .i64 p0.ledger_mark) ⟨h.cell 1 rfl, trivial⟩ (fun w hc => rl rfl (by kernel_rfl) (by kernel_rfl) hc.1) ?_; clear hr a; intro a hr
    refine ev 2 12 rfl (by kernel_rfl) ((wg hr rfl rfl rfl (b' := false) (by kernel_rfl)).trans rfl) hr (.int .i64 (wi (p0.ledger_size - p0.ledger_mark))) (fun w => by kernel_rfl) ?_; clear hr a; intro a hr
    refine ev 1 13 rfl (by kernel_rfl) ((wg hr rfl rfl rfl (b' := false) (by kernel_rfl)).trans rfl) hr (.bool (decide (p1 > (wi (p0.ledger_size - p0.ledger_mark))))) (fun w => by kernel_rfl) ?_; clear hr a; intro a hr
    refine ev 0 14 rfl (by kernel_rfl) (wn rfl) hr (.bool (decide (p1 > (wi (p0.ledger_size - p0.ledger_mark))))) (fun w => by kernel_rfl) ?_; clear hr a; intro a hr
    refine e_end (by kernel_rfl) ?_
    refine then_normal ?_
    by_cases c6 : p1 > (wi (p0.ledger_size - p0.ledger_mark))
    ·
      replace H := ifT c6 H
      refine cond_tt hr (b := (decide (p1 > (wi (p0.ledger_size - p0.ledger_mark))))) (decide_eq_true c6) ?_
      refine wp_seq ?_
      refine wp_region_lit ?_
      refine ov hr (.int .i64 22) (by kernel_rfl) ?_; clear hr a; intro a hr
      refine wpList_nil ?_
      refine then_normal ?_
      refine wp_ret ?_
      refine then_ret ?_
      refine end_ret1 (v := .int .i64 22) rfl hr (by kernel_rfl) ?_
      replace H := ej1 H; subst H
      exact ⟨rfl, h⟩
    ·
      replace H := ifF c6 H
      refine cond_ff hr (b := (decide (p1 > (wi (p0.ledger_size - p0.ledger_mark))))) (decide_eq_false c6) ?_
      refine wp_skip ?_
      refine then_normal ?_
      refine wp_seq ?_
      refine wp_region_lit ?_
      refine ov hr (.int .i64 0) (by kernel_rfl) ?_; clear hr a; intro a hr
      refine wpList_nil ?_
      refine then_normal ?_
      refine wp_ret ?_
      refine end_ret1 (v := .int .i64 0) rfl hr (by kernel_rfl) ?_
      replace H := ej1 H; subst H
      exact ⟨rfl, h⟩

/-- (*plunder/cells.ledger).take -/
def cells_ledger_take (p0 : T_cells_Arena) (p1 : Int) : Option (Int × T_cells_Arena) :=
  some (p0.ledger_mark, { p0 with ledger_mark := wi (p0.ledger_mark + p1) })
set_option maxRecDepth 100000 in
set_option maxHeartbeats 4000000 in
theorem cells_ledger_take_ok {z w : World} {L : List HProp} {p0 : T_cells_Arena} {p1 : Int} {B0 : Nat} {ca1 : Option Addr} {cc2 : Nat} {ca3 : Option Addr} {cc4 : Nat} {r0 : Int} {q0 : T_cells_Arena} (H : cells_ledger_take p0 p1 = some (r0, q0)) (h : Fit z (sepL (ob96 B0 p0 ca1 cc2 ca3 cc4 :: ro2 ca1 cc2 p0.cell :: ro90 ca3 cc4 p0.log :: L)) w)  :
    Calls Try.prog 63 #[.pointer (some ⟨B0, 0, none⟩), .int .i64 p1] w fun e w => ∃ caq0_1 : Option Addr, ∃ ccq0_2 : Nat, ∃ caq0_3 : Option Addr, ∃ ccq0_4 : Nat, e = .returned (.int .i64 r0) ∧ Fit z (sepL (ob96 B0 q0 caq0_1 ccq0_2 caq0_3 ccq0_4 :: ro2 caq0_1 ccq0_2 q0.cell :: ro90 caq0_3 ccq0_4 q0.log :: L)) w := by
  unfold cells_ledger_take at H
  refine enter Try.func63 rfl 19 rfl rfl [(0, .pointer (some ⟨B0, 0, none⟩)), (1, .int .i64 p1)] ⟨rfl, rfl, trivial⟩ ?_
  intro j a hr
  refine wp_seq ?_
  refine wp_region_lit ?_
  refine ov hr (.int .i64 0) (by kernel_rfl) ?_; clear hr a; intro a hr
  refine wpList_nil ?_
  refine then_normal ?_
  refine wp_seq ?_
  refine wp_region_lit ?_
  refine ovs [6, 7, 8] [.pointer (some ⟨B0, 0, none⟩), .pointer (some ⟨B0, 0, none⟩), .pointer (some ⟨B0, 1, none⟩)] hr ⟨rfl, rfl⟩ (by kernel_rfl) ?_; clear hr a; intro a hr
  refine op_val (wn rfl) rfl rfl hr (v := .int .i64 p0.ledger_mark) (rl rfl (by kernel_rfl) (by kernel_rfl) (h.cell 1 rfl)) ?_; clear hr a; intro a hr
  refine ov hr (.int .i64 p0.ledger_mark) (by kernel_rfl) ?_; clear hr a; intro a hr
  refine wpList_nil ?_
  refine then_normal ?_
  refine wp_seq ?_
  refine wp_region_lit ?_
  refine ovs [10, 11, 12] [.pointer (some ⟨B0, 0, none⟩), .pointer (some ⟨B0, 0, none⟩), .pointer (some ⟨B0, 1, none⟩)] hr ⟨rfl, rfl⟩ (by kernel_rfl) ?_; clear hr a; intro a hr
  refine op_val (wn rfl) rfl rfl hr (v := .int .i64 p0.ledger_mark) (rl rfl (by kernel_rfl) (by kernel_rfl) (h.cell 1 rfl)) ?_; clear hr a; intro a hr
  refine ovs [14, 15, 16, 17] [.int .i64 p1, .int .i64 (wi (p0.ledger_mark + p1)), .pointer (some ⟨B0, 0, none⟩), .pointer (some ⟨B0, 1, none⟩)] hr ⟨rfl, rfl⟩ (by kernel_rfl) ?_; clear hr a; intro a hr
  refine op_store (wn rfl) rfl hr rfl (by kernel_rfl) (by kernel_rfl) (v := .int .i64 (wi (p0.ledger_mark + p1))) rfl rfl (by kernel_rfl) h (i := 1) rfl ?_; clear h; intro w h
  refine wpList_nil ?_
  replace h : Fit z (sepL (pts B0 (.cells #[.int .i64 p0.ledger_size, .int .i64 (wi (p0.ledger_mark + p1)), .slice ca1 p0.cell.length cc2, .slice ca3 p0.log.length cc4, .int .i64 p0.actor, .bool p0.watched] 96) :: ro2 ca1 cc2 p0.cell :: ro90 ca3 cc4 p0.log :: L)) _ := h
  refine then_normal ?_
  refine wp_seq ?_
  refine wp_region_lit ?_
  refine ovs [18, 4] [.int .i64 p0.ledger_mark, .int .i64 p0.ledger_mark] hr ⟨rfl, rfl⟩ (by kernel_rfl) ?_; clear hr a; intro a hr
  refine wpList_nil ?_
  refine then_normal ?_
  refine wp_ret ?_
  refine end_ret1 (v := .int .i64 p0.ledger_mark) rfl hr (by kernel_rfl) ?_
  replace H := ej2 H; obtain ⟨rfl, rfl⟩ := H
  exact ⟨ca1, cc2, ca3, cc4, rfl, h⟩

/-- (*plunder/cells.Arena).Reserve -/
def cells_Arena_Reserve (p0 : T_cells_Arena) (p1 : Int) : Option (Int × Int × T_cells_Arena) :=
  ob0 (some ()) (ob1 (cells_ledger_refuse p0 p1) (fun r7 => (if r7 = (0 : Int) then ob2 (cells_ledger_take p0 p1) (fun r10 S11 => if 0 ≤ p1 ∧ (S11.cell.length + p1.toNat) * 8 ≤ 140737488355328 then ob1 (cells_Arena_note ({ S11 with cell := S11.cell ++ List.replicate p1.toNat (0 : Int) }) 4 r10 p1 0 true) (fun S20 => some (r10, 0, S20)) else none) else some (0, r7, p0))))
set_option maxRecDepth 100000 in
set_option maxHeartbeats 4000000 in
theorem cells_Arena_Reserve_ok {z w : World} {L : List HProp} {p0 : T_cells_Arena} {p1 : Int} {B0 : Nat} {ca1 : Option Addr} {cc2 : Nat} {ca3 : Option Addr} {cc4 : Nat} {r0 : Int} {r1 : Int} {q0 : T_cells_Arena} (H : cells_Arena_Reserve p0 p1 = some (r0, r1, q0)) (h : Fit z (sepL (ob96 B0 p0 ca1 cc2 ca3 cc4 :: ro2 ca1 cc2 p0.cell :: ro90 ca3 cc4 p0.log :: L)) w)  :
    Calls Try.prog 20 #[.pointer (some ⟨B0, 0, none⟩), .int .i64 p1] w fun e w => ∃ caq0_1 : Option Addr, ∃ ccq0_2 : Nat, ∃ caq0_3 : Option Addr, ∃ ccq0_4 : Nat, e = .returned (.tuple #[.int .i64 r0, .int .i64 r1]) ∧ Fit z (sepL (ob96 B0 q0 caq0_1 ccq0_2 caq0_3 ccq0_4 :: ro2 caq0_1 ccq0_2 q0.cell :: ro90 caq0_3 ccq0_4 q0.log :: L)) w := by
  unfold cells_Arena_Reserve at H
  refine enter Try.func20 rfl 37 rfl rfl [(0, .pointer (some ⟨B0, 0, none⟩)), (1, .int .i64 p1)] ⟨rfl, rfl, trivial⟩ ?_
  intro j a hr
  refine wp_seq ?_
  refine wp_region_lit ?_
  refine ovs [4, 5] [.int .i64 0, .int .i64 0] hr ⟨rfl, rfl⟩ (by kernel_rfl) ?_; clear hr a; intro a hr
  refine wpList_nil ?_
  refine then_normal ?_
  refine wp_seq ?_
  refine wp_region_lit ?_
  refine ov hr (.pointer none) (by kernel_rfl) ?_; clear hr a; intro a hr
  refine wpList_nil ?_
  refine then_normal ?_
  replace H := kd0 H; obtain ⟨o6, H, hK5⟩ := H
  refine cut_rule (β := Unit) (fun _ a w => () = o6 ∧ ∃ j, Rep 37 (lk [(0, .pointer (some ⟨B0, 0, none⟩)), (1, .int .i64 p1), (6, .pointer (some ⟨B0, 0, none⟩))] j) a ∧ Fit z (sepL (ob96 B0 p0 ca1 cc2 ca3 cc4 :: ro2 ca1 cc2 p0.cell :: ro90 ca3 cc4 p0.log :: L)) w) ?_ ?_
  ·
    refine wp_seq ?_
    refine wp_region_lit ?_
    refine ovs [9, 10] [.pointer (some ⟨B0, 0, none⟩), .bool true] hr ⟨rfl, rfl⟩ (by kernel_rfl) ?_; clear hr a; intro a hr
    refine wpList_nil ?_
    refine then_normal ?_
    refine cond_tt hr (b := true) rfl ?_
    refine wp_region_lit ?_
    refine ovs [11, 12, 13, 6] [.pointer (some ⟨B0, 0, none⟩), .pointer (some ⟨B0, 0, none⟩), .pointer (some ⟨B0, 0, none⟩), .pointer (some ⟨B0, 0, none⟩)] hr ⟨rfl, rfl⟩ (by kernel_rfl) ?_; clear hr a; intro a hr
    refine wpList_nil ?_
    refine then_normal ?_
    replace hr := hr.fold2 [(0, .pointer (some ⟨B0, 0, none⟩)), (1, .int .i64 p1), (6, .pointer (some ⟨B0, 0, none⟩))] (by kernel_rfl); obtain ⟨j, hr⟩ := hr
    exact ⟨(), sinj H, j, hr, h⟩
  clear h hr a; rintro _ a w ⟨rfl, j, hr, h⟩
  replace H := kk0 hK5
  refine wp_seq ?_
  refine wp_seq ?_
  refine wp_region_lit ?_
  replace H := bd1 H; obtain ⟨r7, e8, H⟩ := H
  refine ovs [14, 15] [.pointer (some ⟨B0, 0, none⟩), .int .i64 p1] hr ⟨rfl, rfl⟩ (by kernel_rfl) ?_; clear hr a; intro a hr
  have hc := cells_ledger_refuse_ok (H := e8) (h := h)
  refine op_call (wn rfl) rfl rfl hr (f := 62) (args := #[.pointer (some ⟨B0, 0, none⟩), .int .i64 p1]) (by kernel_rfl) hc ?_; clear hc h
  rintro _ w ⟨rfl, h⟩; refine ⟨_, rfl, ?_⟩
  clear hr a; intro a hr
  refine ov hr (.int .i64 r7) (by kernel_rfl) ?_; clear hr a; intro a hr
  refine wpList_nil ?_
  refine then_normal ?_
  refine wp_seq ?_
  refine wp_region_lit ?_
  refine ovs [17, 18] [.int .i64 r7, .bool (r7 != (0 : Int))] hr ⟨rfl, rfl⟩ (by kernel_rfl) ?_; clear hr a; intro a hr
  refine wpList_nil ?_
  refine then_normal ?_
  by_cases c9 : r7 = (0 : Int)
  ·
    replace H := ifT c9 H
    refine cond_ff hr (b := (r7 != (0 : Int))) (bne_eq_false_iff_eq.mpr c9) ?_
    refine wp_skip ?_
    refine then_normal ?_
    refine wp_seq ?_
    refine wp_region_lit ?_
    replace H := bd2 H; obtain ⟨r10, S11, e12, H⟩ := H
    refine ovs [20, 21] [.pointer (some ⟨B0, 0, none⟩), .int .i64 p1] hr ⟨rfl, rfl⟩ (by kernel_rfl) ?_; clear hr a; intro a hr
    have hc := cells_ledger_take_ok (H := e12) (h := h)
    refine op_call (wn rfl) rfl rfl hr (f := 63) (args := #[.pointer (some ⟨B0, 0, none⟩), .int .i64 p1]) (by kernel_rfl) hc ?_; clear hc h
    rintro _ w ⟨caq13, ccq14, caq15, ccq16, rfl, h⟩; refine ⟨_, rfl, ?_⟩
    clear hr a; intro a hr
    refine ov hr (.int .i64 r10) (by kernel_rfl) ?_; clear hr a; intro a hr
    refine wpList_nil ?_
    refine then_normal ?_
    refine wp_seq ?_
    refine wp_region_lit ?_
    refine ovs [23, 24, 25, 26] [.pointer (some ⟨B0, 0, none⟩), .pointer (some ⟨B0, 0, none⟩), .pointer (some ⟨B0, 0, none⟩), .pointer (some ⟨B0, 2, none⟩)] hr ⟨rfl, rfl⟩ (by kernel_rfl) ?_; clear hr a; intro a hr
    refine op_val (wn rfl) rfl rfl hr (v := .slice caq13 S11.cell.length ccq14) (rl rfl (by kernel_rfl) (by kernel_rfl) (h.cell 2 rfl)) ?_; clear hr a; intro a hr
    refine ov hr (.int .i64 p1) (by kernel_rfl) ?_; clear hr a; intro a hr
    replace h : Fit z (sepL (ro2 caq13 ccq14 S11.cell :: ob96 B0 S11 caq13 ccq14 caq15 ccq16 :: ro90 caq15 ccq16 S11.log :: L)) _ := h.sel 3 [1, 0, 2] (by kernel_rfl) (by kernel_rfl)
    replace H := gd H; obtain ⟨c19, H⟩ := H
    refine op_extend (kx := .i64) (n0 := S11.cell.length) (i := p1) (m := p1.toNat) (bytes := 8) (zc := #[.int .i64 0]) (0 : Int) (wn rfl) rfl rfl hr rfl (by kernel_rfl) (by kernel_rfl) (Int.toNat_of_nonneg c19.1).symm encZ_i64_ok (E := 2) (xs := S11.cell) (by kernel_rfl) (by kernel_rfl) (by kernel_rfl) rfl h c19.2 rfl ?_; clear h hr a; intro ca17 cc18 w a h hr
    refine ovs [30, 31] [.pointer (some ⟨B0, 0, none⟩), .pointer (some ⟨B0, 2, none⟩)] hr ⟨rfl, rfl⟩ (by kernel_rfl) ?_; clear hr a; intro a hr
    replace h : Fit z (sepL (ob96 B0 S11 caq13 ccq14 caq15 ccq16 :: ro2 ca17 cc18 (S11.cell ++ List.replicate p1.toNat (0 : Int)) :: ro90 caq15 ccq16 S11.log :: L)) _ := h.sel 3 [1, 0, 2] (by kernel_rfl) (by kernel_rfl)
    refine op_store (wn rfl) rfl hr rfl (by kernel_rfl) (by kernel_rfl) (v := .slice ca17 ((S11.cell ++ List.replicate p1.toNat (0 : Int)).length) cc18) rfl rfl (by kernel_rfl) h (i := 2) rfl ?_; clear h; intro w h
    refine wpList_nil ?_
    replace h : Fit z (sepL (pts B0 (.cells #[.int .i64 S11.ledger_size, .int .i64 S11.ledger_mark, .slice ca17 ((S11.cell ++ List.replicate p1.toNat (0 : Int)).length) cc18, .slice caq15 S11.log.length ccq16, .int .i64 S11.actor, .bool S11.watched] 96) :: ro2 ca17 cc18 (S11.cell ++ List.replicate p1.toNat (0 : Int)) :: ro90 caq15 ccq16 S11.log :: L)) _ := h
    refine then_normal ?_
    refine wp_seq ?_
    refine wp_region_lit ?_
    replace H := bd1 H; obtain ⟨S20, e21, H⟩ := H
    refine ovs [32, 33, 34] [.pointer (some ⟨B0, 0, none⟩), .int .i64 r10, .int .i64 p1] hr ⟨rfl, rfl⟩ (by kernel_rfl) ?_; clear hr a; intro a hr
    have hc := cells_Arena_note_ok (H := e21) (h := h)
    refine op_call (wn rfl) rfl rfl hr (f := 64) (args := #[.pointer (some ⟨B0, 0, none⟩), .int .i64 4, .int .i64 r10, .int .i64 p1, .int .i64 0, .bool true]) (by kernel_rfl) hc ?_; clear hc h
    rintro _ w ⟨caq22, ccq23, caq24, ccq25, rfl, h⟩; refine ⟨_, rfl, ?_⟩
    clear hr a; intro a hr
    refine wpList_nil ?_
    refine then_normal ?_
    refine wp_seq ?_
    refine wp_region_lit ?_
    refine ovs [36, 4, 5] [.int .i64 r10, .int .i64 r10, .int .i64 0] hr ⟨rfl, rfl⟩ (by kernel_rfl) ?_; clear hr a; intro a hr
    refine wpList_nil ?_
    refine then_normal ?_
    refine wp_ret ?_
    refine end_ret2 (v := .int .i64 r10) (v' := .int .i64 0) rfl hr (by kernel_rfl) (by kernel_rfl) ?_
    replace H := ej3 H; obtain ⟨rfl, rfl, rfl⟩ := H
    exact ⟨caq22, ccq23, caq24, ccq25, rfl, h⟩
  ·
    replace H := ifF c9 H
    refine cond_tt hr (b := (r7 != (0 : Int))) (bne_iff_ne.mpr c9) ?_
    refine wp_seq ?_
    refine wp_region_lit ?_
    refine ovs [19, 4, 5] [.int .i64 r7, .int .i64 0, .int .i64 r7] hr ⟨rfl, rfl⟩ (by kernel_rfl) ?_; clear hr a; intro a hr
    refine wpList_nil ?_
    refine then_normal ?_
    refine wp_ret ?_
    refine then_ret ?_
    refine end_ret2 (v := .int .i64 0) (v' := .int .i64 r7) rfl hr (by kernel_rfl) (by kernel_rfl) ?_
    replace H := ej3 H; obtain ⟨rfl, rfl, rfl⟩ := H
    exact ⟨ca1, cc2, ca3, cc4, rfl, h⟩

/-- plunder/plunderlaw2.done -/
def plunderlaw2_done (p0 : T_cells_Arena) (p1 : T_plunderlaw2_Move) : Option (T_api_Effect × T_cells_Arena) :=
  (if p1.Kind = (0 : Int) then ob3 (cells_Arena_Load p0 p1.Addr) (fun r8 r9 S10 => some ((⟨r8, r9 == (0 : Int), r9⟩ : T_api_Effect), S10)) else (if p1.Kind = (1 : Int) then ob2 (cells_Arena_Store p0 p1.Addr p1.A) (fun r17 S18 => some ((⟨0, r17 == (0 : Int), r17⟩ : T_api_Effect), S18)) else (if p1.Kind = (2 : Int) then ob3 (cells_Arena_CAS p0 p1.Addr p1.A p1.B) (fun r25 r26 S27 => some ((⟨0, r25, r26⟩ : T_api_Effect), S27)) else (if p1.Kind = (3 : Int) then ob3 (cells_Arena_Add p0 p1.Addr p1.A) (fun r34 r35 S36 => some ((⟨r34, r35 == (0 : Int), r35⟩ : T_api_Effect), S36)) else ob3 (cells_Arena_Reserve p0 p1.A) (fun r42 r43 S44 => some ((⟨r42, r43 == (0 : Int), r43⟩ : T_api_Effect), S44))))))
set_option maxRecDepth 100000 in
set_option maxHeartbeats 4000000 in
theorem plunderlaw2_done_ok {z w : World} {L : List HProp} {p0 : T_cells_Arena} {p1 : T_plunderlaw2_Move} {B0 : Nat} {ca1 : Option Addr} {cc2 : Nat} {ca3 : Option Addr} {cc4 : Nat} {r0 : T_api_Effect} {q0 : T_cells_Arena} (H : plunderlaw2_done p0 p1 = some (r0, q0)) (h : Fit z (sepL (ob96 B0 p0 ca1 cc2 ca3 cc4 :: ro2 ca1 cc2 p0.cell :: ro90 ca3 cc4 p0.log :: L)) w)  :
    Calls Try.prog 22 #[.pointer (some ⟨B0, 0, none⟩), .agg #[.int .i64 p1.Side, .int .i64 p1.Kind, .int .i64 p1.Addr, .int .i64 p1.A, .int .i64 p1.B]] w fun e w => ∃ caq0_1 : Option Addr, ∃ ccq0_2 : Nat, ∃ caq0_3 : Option Addr, ∃ ccq0_4 : Nat, e = .returned (.agg #[.int .i64 r0.V, .bool r0.OK, .int .i64 r0.Err]) ∧ Fit z (sepL (ob96 B0 q0 caq0_1 ccq0_2 caq0_3 ccq0_4 :: ro2 caq0_1 ccq0_2 q0.cell :: ro90 caq0_3 ccq0_4 q0.log :: L)) w := by
  unfold plunderlaw2_done at H
  refine enter Try.func22 rfl 86 rfl rfl [(0, .pointer (some ⟨B0, 0, none⟩)), (1, .agg #[.int .i64 p1.Side, .int .i64 p1.Kind, .int .i64 p1.Addr, .int .i64 p1.A, .int .i64 p1.B])] ⟨rfl, rfl, trivial⟩ ?_
  intro j a hr
  refine wp_seq ?_
  refine wp_region_lit ?_
  refine op_new (wn rfl) rfl rfl hr h (vf := fun b => .pointer (some ⟨b, 0, none⟩)) (cs := #[.int .i64 p1.Side, .int .i64 p1.Kind, .int .i64 p1.Addr, .int .i64 p1.A, .int .i64 p1.B]) (T := 30) (by kernel_rfl) ?_; clear h hr a; intro b5 w a h hr
  refine op_new (wn rfl) rfl rfl hr h (vf := fun b => .pointer (some ⟨b, 0, none⟩)) (cs := #[.int .i64 0, .bool false, .int .i64 0]) (T := 39) (by kernel_rfl) ?_; clear h hr a; intro b6 w a h hr
  refine wpList_nil ?_
  refine then_normal ?_
  refine wp_seq ?_
  refine wp_seq ?_
  refine wp_region_lit ?_
  refine ov hr (.pointer (some ⟨b5, 1, none⟩)) (by kernel_rfl) ?_; clear hr a; intro a hr
  refine op_val (wn rfl) rfl rfl hr (v := .int .i64 p1.Kind) (rl rfl (by kernel_rfl) (by kernel_rfl) ((h.pick 1).cell 1 rfl)) ?_; clear hr a; intro a hr
  refine wpList_nil ?_
  refine then_normal ?_
  refine wp_block ?_
  refine wp_seq ?_
  refine wp_region_lit ?_
  refine ovs [17, 16] [.bool (p1.Kind == (0 : Int)), .bool (p1.Kind == (0 : Int))] hr ⟨rfl, rfl⟩ (by kernel_rfl) ?_; clear hr a; intro a hr
  refine wpList_nil ?_
  refine then_normal ?_
  by_cases c7 : p1.Kind = (0 : Int)
  ·
    replace H := ifT c7 H
    refine cond_tt hr (b := (p1.Kind == (0 : Int))) (beq_iff_eq.mpr c7) ?_
    refine wp_seq ?_
    refine wp_region_lit ?_
    refine ovs [19, 20] [.pointer (some ⟨B0, 0, none⟩), .pointer (some ⟨b5, 2, none⟩)] hr ⟨rfl, rfl⟩ (by kernel_rfl) ?_; clear hr a; intro a hr
    refine op_val (wn rfl) rfl rfl hr (v := .int .i64 p1.Addr) (rl rfl (by kernel_rfl) (by kernel_rfl) ((h.pick 1).cell 2 rfl)) ?_; clear hr a; intro a hr
    replace H := bd3 H; obtain ⟨r8, r9, S10, e11, H⟩ := H
    replace h : Fit z (sepL (ob96 B0 p0 ca1 cc2 ca3 cc4 :: ro2 ca1 cc2 p0.cell :: ro90 ca3 cc4 p0.log :: pts b6 (.cells #[.int .i64 0, .bool false, .int .i64 0] 39) :: ob30 b5 p1 :: L)) _ := h.sel 5 [2, 3, 4, 0, 1] (by kernel_rfl) (by kernel_rfl)
    have hc := cells_Arena_Load_ok (H := e11) (h := h)
    refine op_call (wn rfl) rfl rfl hr (f := 66) (args := #[.pointer (some ⟨B0, 0, none⟩), .int .i64 p1.Addr]) (by kernel_rfl) hc ?_; clear hc h
    rintro _ w ⟨caq12, ccq13, caq14, ccq15, rfl, h⟩; refine ⟨_, rfl, ?_⟩
    clear hr a; intro a hr
    refine ovs [18, 23, 24, 5, 6] [.tuple #[.int .i64 r8, .int .i64 r9], .int .i64 r8, .int .i64 r9, .int .i64 r8, .int .i64 r9] hr ⟨rfl, rfl⟩ (by kernel_rfl) ?_; clear hr a; intro a hr
    refine wpList_nil ?_
    refine then_normal ?_
    refine wp_seq ?_
    refine wp_region_lit ?_
    refine ovs [25, 26, 27, 28, 29] [.int .i64 r8, .int .i64 r9, .bool (r9 == (0 : Int)), .int .i64 r9, .agg #[.int .i64 r8, .bool (r9 == (0 : Int)), .int .i64 r9]] hr ⟨rfl, rfl⟩ (by kernel_rfl) ?_; clear hr a; intro a hr
    replace h : Fit z (sepL (pts b6 (.cells #[.int .i64 0, .bool false, .int .i64 0] 39) :: ob96 B0 S10 caq12 ccq13 caq14 ccq15 :: ro2 caq12 ccq13 S10.cell :: ro90 caq14 ccq15 S10.log :: ob30 b5 p1 :: L)) _ := h.sel 5 [3, 0, 1, 2, 4] (by kernel_rfl) (by kernel_rfl)
    refine op_stores (wn rfl) rfl hr rfl (by kernel_rfl) (by kernel_rfl) (vs := [.int .i64 r8, .bool (r9 == (0 : Int)), .int .i64 r9]) rfl rfl (by kernel_rfl) h (i := 0) (cs' := #[.int .i64 r8, .bool (r9 == (0 : Int)), .int .i64 r9]) rfl ?_; clear h; intro w h
    refine wpList_nil ?_
    replace h : Fit z (sepL (pts b6 (.cells #[.int .i64 r8, .bool (r9 == (0 : Int)), .int .i64 r9] 39) :: ob96 B0 S10 caq12 ccq13 caq14 ccq15 :: ro2 caq12 ccq13 S10.cell :: ro90 caq14 ccq15 S10.log :: ob30 b5 p1 :: L)) _ := h
    refine then_normal ?_
    refine wp_ret ?_
    refine blk_ret ?_
    refine then_ret ?_
    refine end_retC (cs := [.int .i64 r8, .bool (r9 == (0 : Int)), .int .i64 r9]) rfl hr (by kernel_rfl) (by kernel_rfl) (by kernel_rfl) ⟨h.cell 0 rfl, h.cell 1 rfl, h.cell 2 rfl, trivial⟩ ?_
    replace h : Fit z (sepL (ob96 B0 S10 caq12 ccq13 caq14 ccq15 :: ro2 caq12 ccq13 S10.cell :: ro90 caq14 ccq15 S10.log :: L)) _ := h.sel 5 [1, 2, 3] (by kernel_rfl) (by kernel_rfl)
    replace H := ej2 H; obtain ⟨rfl, rfl⟩ := H
    exact ⟨caq12, ccq13, caq14, ccq15, rfl, h⟩
  ·
    replace H := ifF c7 H
    refine cond_ff hr (b := (p1.Kind == (0 : Int))) (beq_eq_false_iff_ne.mpr c7) ?_
    refine wp_seq ?_
    refine wp_region_lit ?_
    refine ovs [31, 30] [.bool (p1.Kind == (1 : Int)), .bool (p1.Kind == (1 : Int))] hr ⟨rfl, rfl⟩ (by kernel_rfl) ?_; clear hr a; intro a hr
    refine wpList_nil ?_
    refine then_normal ?_
    by_cases c16 : p1.Kind = (1 : Int)
    ·
      replace H := ifT c16 H
      refine cond_tt hr (b := (p1.Kind == (1 : Int))) (beq_iff_eq.mpr c16) ?_
      refine wp_seq ?_
      refine wp_region_lit ?_
      refine ovs [32, 33] [.pointer (some ⟨B0, 0, none⟩), .pointer (some ⟨b5, 2, none⟩)] hr ⟨rfl, rfl⟩ (by kernel_rfl) ?_; clear hr a; intro a hr
      refine op_val (wn rfl) rfl rfl hr (v := .int .i64 p1.Addr) (rl rfl (by kernel_rfl) (by kernel_rfl) ((h.pick 1).cell 2 rfl)) ?_; clear hr a; intro a hr
      refine ov hr (.pointer (some ⟨b5, 3, none⟩)) (by kernel_rfl) ?_; clear hr a; intro a hr
      refine op_val (wn rfl) rfl rfl hr (v := .int .i64 p1.A) (rl rfl (by kernel_rfl) (by kernel_rfl) ((h.pick 1).cell 3 rfl)) ?_; clear hr a; intro a hr
      replace H := bd2 H; obtain ⟨r17, S18, e19, H⟩ := H
      replace h : Fit z (sepL (ob96 B0 p0 ca1 cc2 ca3 cc4 :: ro2 ca1 cc2 p0.cell :: ro90 ca3 cc4 p0.log :: pts b6 (.cells #[.int .i64 0, .bool false, .int .i64 0] 39) :: ob30 b5 p1 :: L)) _ := h.sel 5 [2, 3, 4, 0, 1] (by kernel_rfl) (by kernel_rfl)
      have hc := cells_Arena_Store_ok (H := e19) (h := h)
      refine op_call (wn rfl) rfl rfl hr (f := 21) (args := #[.pointer (some ⟨B0, 0, none⟩), .int .i64 p1.Addr, .int .i64 p1.A]) (by kernel_rfl) hc ?_; clear hc h
      rintro _ w ⟨caq20, ccq21, caq22, ccq23, rfl, h⟩; refine ⟨_, rfl, ?_⟩
      clear hr a; intro a hr
      refine ov hr (.int .i64 r17) (by kernel_rfl) ?_; clear hr a; intro a hr
      refine wpList_nil ?_
      refine then_normal ?_
      refine wp_seq ?_
      refine wp_region_lit ?_
      refine ovs [38, 39, 40, 41] [.int .i64 r17, .bool (r17 == (0 : Int)), .int .i64 r17, .agg #[.int .i64 0, .bool (r17 == (0 : Int)), .int .i64 r17]] hr ⟨rfl, rfl⟩ (by kernel_rfl) ?_; clear hr a; intro a hr
      replace h : Fit z (sepL (pts b6 (.cells #[.int .i64 0, .bool false, .int .i64 0] 39) :: ob96 B0 S18 caq20 ccq21 caq22 ccq23 :: ro2 caq20 ccq21 S18.cell :: ro90 caq22 ccq23 S18.log :: ob30 b5 p1 :: L)) _ := h.sel 5 [3, 0, 1, 2, 4] (by kernel_rfl) (by kernel_rfl)
      refine op_stores (wn rfl) rfl hr rfl (by kernel_rfl) (by kernel_rfl) (vs := [.int .i64 0, .bool (r17 == (0 : Int)), .int .i64 r17]) rfl rfl (by kernel_rfl) h (i := 0) (cs' := #[.int .i64 0, .bool (r17 == (0 : Int)), .int .i64 r17]) rfl ?_; clear h; intro w h
      refine wpList_nil ?_
      replace h : Fit z (sepL (pts b6 (.cells #[.int .i64 0, .bool (r17 == (0 : Int)), .int .i64 r17] 39) :: ob96 B0 S18 caq20 ccq21 caq22 ccq23 :: ro2 caq20 ccq21 S18.cell :: ro90 caq22 ccq23 S18.log :: ob30 b5 p1 :: L)) _ := h
      refine then_normal ?_
      refine wp_ret ?_
      refine blk_ret ?_
      refine then_ret ?_
      refine end_retC (cs := [.int .i64 0, .bool (r17 == (0 : Int)), .int .i64 r17]) rfl hr (by kernel_rfl) (by kernel_rfl) (by kernel_rfl) ⟨h.cell 0 rfl, h.cell 1 rfl, h.cell 2 rfl, trivial⟩ ?_
      replace h : Fit z (sepL (ob96 B0 S18 caq20 ccq21 caq22 ccq23 :: ro2 caq20 ccq21 S18.cell :: ro90 caq22 ccq23 S18.log :: L)) _ := h.sel 5 [1, 2, 3] (by kernel_rfl) (by kernel_rfl)
      replace H := ej2 H; obtain ⟨rfl, rfl⟩ := H
      exact ⟨caq20, ccq21, caq22, ccq23, rfl, h⟩
    ·
      replace H := ifF c16 H
      refine cond_ff hr (b := (p1.Kind == (1 : Int))) (beq_eq_false_iff_ne.mpr c16) ?_
      refine wp_seq ?_
      refine wp_region_lit ?_
      refine ovs [43, 42] [.bool (p1.Kind == (2 : Int)), .bool (p1.Kind == (2 : Int))] hr ⟨rfl, rfl⟩ (by kernel_rfl) ?_; clear hr a; intro a hr
      refine wpList_nil ?_
      refine then_normal ?_
      by_cases c24 : p1.Kind = (2 : Int)
      ·
        replace H := ifT c24 H
        refine cond_tt hr (b := (p1.Kind == (2 : Int))) (beq_iff_eq.mpr c24) ?_
        refine wp_seq ?_
        refine wp_region_lit ?_
        refine ovs [45, 46] [.pointer (some ⟨B0, 0, none⟩), .pointer (some ⟨b5, 2, none⟩)] hr ⟨rfl, rfl⟩ (by kernel_rfl) ?_; clear hr a; intro a hr
        refine op_val (wn rfl) rfl rfl hr (v := .int .i64 p1.Addr) (rl rfl (by kernel_rfl) (by kernel_rfl) ((h.pick 1).cell 2 rfl)) ?_; clear hr a; intro a hr
        refine ov hr (.pointer (some ⟨b5, 3, none⟩)) (by kernel_rfl) ?_; clear hr a; intro a hr
        refine op_val (wn rfl) rfl rfl hr (v := .int .i64 p1.A) (rl rfl (by kernel_rfl) (by kernel_rfl) ((h.pick 1).cell 3 rfl)) ?_; clear hr a; intro a hr
        refine ov hr (.pointer (some ⟨b5, 4, none⟩)) (by kernel_rfl) ?_; clear hr a; intro a hr
        refine op_val (wn rfl) rfl rfl hr (v := .int .i64 p1.B) (rl rfl (by kernel_rfl) (by kernel_rfl) ((h.pick 1).cell 4 rfl)) ?_; clear hr a; intro a hr
        replace H := bd3 H; obtain ⟨r25, r26, S27, e28, H⟩ := H
        replace h : Fit z (sepL (ob96 B0 p0 ca1 cc2 ca3 cc4 :: ro2 ca1 cc2 p0.cell :: ro90 ca3 cc4 p0.log :: pts b6 (.cells #[.int .i64 0, .bool false, .int .i64 0] 39) :: ob30 b5 p1 :: L)) _ := h.sel 5 [2, 3, 4, 0, 1] (by kernel_rfl) (by kernel_rfl)
        have hc := cells_Arena_CAS_ok (H := e28) (h := h)
        refine op_call (wn rfl) rfl rfl hr (f := 67) (args := #[.pointer (some ⟨B0, 0, none⟩), .int .i64 p1.Addr, .int .i64 p1.A, .int .i64 p1.B]) (by kernel_rfl) hc ?_; clear hc h
        rintro _ w ⟨caq29, ccq30, caq31, ccq32, rfl, h⟩; refine ⟨_, rfl, ?_⟩
        clear hr a; intro a hr
        refine ovs [44, 53, 54, 8, 9] [.tuple #[.bool r25, .int .i64 r26], .bool r25, .int .i64 r26, .bool r25, .int .i64 r26] hr ⟨rfl, rfl⟩ (by kernel_rfl) ?_; clear hr a; intro a hr
        refine wpList_nil ?_
        refine then_normal ?_
        refine wp_seq ?_
        refine wp_region_lit ?_
        refine ovs [55, 56, 57] [.bool r25, .int .i64 r26, .agg #[.int .i64 0, .bool r25, .int .i64 r26]] hr ⟨rfl, rfl⟩ (by kernel_rfl) ?_; clear hr a; intro a hr
        replace h : Fit z (sepL (pts b6 (.cells #[.int .i64 0, .bool false, .int .i64 0] 39) :: ob96 B0 S27 caq29 ccq30 caq31 ccq32 :: ro2 caq29 ccq30 S27.cell :: ro90 caq31 ccq32 S27.log :: ob30 b5 p1 :: L)) _ := h.sel 5 [3, 0, 1, 2, 4] (by kernel_rfl) (by kernel_rfl)
        refine op_stores (wn rfl) rfl hr rfl (by kernel_rfl) (by kernel_rfl) (vs := [.int .i64 0, .bool r25, .int .i64 r26]) rfl rfl (by kernel_rfl) h (i := 0) (cs' := #[.int .i64 0, .bool r25, .int .i64 r26]) rfl ?_; clear h; intro w h
        refine wpList_nil ?_
        replace h : Fit z (sepL (pts b6 (.cells #[.int .i64 0, .bool r25, .int .i64 r26] 39) :: ob96 B0 S27 caq29 ccq30 caq31 ccq32 :: ro2 caq29 ccq30 S27.cell :: ro90 caq31 ccq32 S27.log :: ob30 b5 p1 :: L)) _ := h
        refine then_normal ?_
        refine wp_ret ?_
        refine blk_ret ?_
        refine then_ret ?_
        refine end_retC (cs := [.int .i64 0, .bool r25, .int .i64 r26]) rfl hr (by kernel_rfl) (by kernel_rfl) (by kernel_rfl) ⟨h.cell 0 rfl, h.cell 1 rfl, h.cell 2 rfl, trivial⟩ ?_
        replace h : Fit z (sepL (ob96 B0 S27 caq29 ccq30 caq31 ccq32 :: ro2 caq29 ccq30 S27.cell :: ro90 caq31 ccq32 S27.log :: L)) _ := h.sel 5 [1, 2, 3] (by kernel_rfl) (by kernel_rfl)
        replace H := ej2 H; obtain ⟨rfl, rfl⟩ := H
        exact ⟨caq29, ccq30, caq31, ccq32, rfl, h⟩
      ·
        replace H := ifF c24 H
        refine cond_ff hr (b := (p1.Kind == (2 : Int))) (beq_eq_false_iff_ne.mpr c24) ?_
        refine wp_seq ?_
        refine wp_region_lit ?_
        refine ovs [59, 58] [.bool (p1.Kind == (3 : Int)), .bool (p1.Kind == (3 : Int))] hr ⟨rfl, rfl⟩ (by kernel_rfl) ?_; clear hr a; intro a hr
        refine wpList_nil ?_
        refine then_normal ?_
        by_cases c33 : p1.Kind = (3 : Int)
        ·
          replace H := ifT c33 H
          refine cond_tt hr (b := (p1.Kind == (3 : Int))) (beq_iff_eq.mpr c33) ?_
          refine wp_seq ?_
          refine wp_region_lit ?_
          refine ovs [61, 62] [.pointer (some ⟨B0, 0, none⟩), .pointer (some ⟨b5, 2, none⟩)] hr ⟨rfl, rfl⟩ (by kernel_rfl) ?_; clear hr a; intro a hr
          refine op_val (wn rfl) rfl rfl hr (v := .int .i64 p1.Addr) (rl rfl (by kernel_rfl) (by kernel_rfl) ((h.pick 1).cell 2 rfl)) ?_; clear hr a; intro a hr
          refine ov hr (.pointer (some ⟨b5, 3, none⟩)) (by kernel_rfl) ?_; clear hr a; intro a hr
          refine op_val (wn rfl) rfl rfl hr (v := .int .i64 p1.A) (rl rfl (by kernel_rfl) (by kernel_rfl) ((h.pick 1).cell 3 rfl)) ?_; clear hr a; intro a hr
          replace H := bd3 H; obtain ⟨r34, r35, S36, e37, H⟩ := H
          replace h : Fit z (sepL (ob96 B0 p0 ca1 cc2 ca3 cc4 :: ro2 ca1 cc2 p0.cell :: ro90 ca3 cc4 p0.log :: pts b6 (.cells #[.int .i64 0, .bool false, .int .i64 0] 39) :: ob30 b5 p1 :: L)) _ := h.sel 5 [2, 3, 4, 0, 1] (by kernel_rfl) (by kernel_rfl)
          have hc := cells_Arena_Add_ok (H := e37) (h := h)
          refine op_call (wn rfl) rfl rfl hr (f := 68) (args := #[.pointer (some ⟨B0, 0, none⟩), .int .i64 p1.Addr, .int .i64 p1.A]) (by kernel_rfl) hc ?_; clear hc h
          rintro _ w ⟨caq38, ccq39, caq40, ccq41, rfl, h⟩; refine ⟨_, rfl, ?_⟩
          clear hr a; intro a hr
          refine ovs [60, 67, 68, 10, 11] [.tuple #[.int .i64 r34, .int .i64 r35], .int .i64 r34, .int .i64 r35, .int .i64 r34, .int .i64 r35] hr ⟨rfl, rfl⟩ (by kernel_rfl) ?_; clear hr a; intro a hr
          refine wpList_nil ?_
          refine then_normal ?_
          refine wp_seq ?_
          refine wp_region_lit ?_
          refine ovs [69, 70, 71, 72, 73] [.int .i64 r34, .int .i64 r35, .bool (r35 == (0 : Int)), .int .i64 r35, .agg #[.int .i64 r34, .bool (r35 == (0 : Int)), .int .i64 r35]] hr ⟨rfl, rfl⟩ (by kernel_rfl) ?_; clear hr a; intro a hr
          replace h : Fit z (sepL (pts b6 (.cells #[.int .i64 0, .bool false, .int .i64 0] 39) :: ob96 B0 S36 caq38 ccq39 caq40 ccq41 :: ro2 caq38 ccq39 S36.cell :: ro90 caq40 ccq41 S36.log :: ob30 b5 p1 :: L)) _ := h.sel 5 [3, 0, 1, 2, 4] (by kernel_rfl) (by kernel_rfl)
          refine op_stores (wn rfl) rfl hr rfl (by kernel_rfl) (by kernel_rfl) (vs := [.int .i64 r34, .bool (r35 == (0 : Int)), .int .i64 r35]) rfl rfl (by kernel_rfl) h (i := 0) (cs' := #[.int .i64 r34, .bool (r35 == (0 : Int)), .int .i64 r35]) rfl ?_; clear h; intro w h
          refine wpList_nil ?_
          replace h : Fit z (sepL (pts b6 (.cells #[.int .i64 r34, .bool (r35 == (0 : Int)), .int .i64 r35] 39) :: ob96 B0 S36 caq38 ccq39 caq40 ccq41 :: ro2 caq38 ccq39 S36.cell :: ro90 caq40 ccq41 S36.log :: ob30 b5 p1 :: L)) _ := h
          refine then_normal ?_
          refine wp_ret ?_
          refine blk_ret ?_
          refine then_ret ?_
          refine end_retC (cs := [.int .i64 r34, .bool (r35 == (0 : Int)), .int .i64 r35]) rfl hr (by kernel_rfl) (by kernel_rfl) (by kernel_rfl) ⟨h.cell 0 rfl, h.cell 1 rfl, h.cell 2 rfl, trivial⟩ ?_
          replace h : Fit z (sepL (ob96 B0 S36 caq38 ccq39 caq40 ccq41 :: ro2 caq38 ccq39 S36.cell :: ro90 caq40 ccq41 S36.log :: L)) _ := h.sel 5 [1, 2, 3] (by kernel_rfl) (by kernel_rfl)
          replace H := ej2 H; obtain ⟨rfl, rfl⟩ := H
          exact ⟨caq38, ccq39, caq40, ccq41, rfl, h⟩
        ·
          replace H := ifF c33 H
          refine cond_ff hr (b := (p1.Kind == (3 : Int))) (beq_eq_false_iff_ne.mpr c33) ?_
          refine wp_skip ?_
          refine blk_normal ?_
          refine then_normal ?_
          refine wp_seq ?_
          refine wp_region_lit ?_
          refine ovs [75, 76] [.pointer (some ⟨B0, 0, none⟩), .pointer (some ⟨b5, 3, none⟩)] hr ⟨rfl, rfl⟩ (by kernel_rfl) ?_; clear hr a; intro a hr
          refine op_val (wn rfl) rfl rfl hr (v := .int .i64 p1.A) (rl rfl (by kernel_rfl) (by kernel_rfl) ((h.pick 1).cell 3 rfl)) ?_; clear hr a; intro a hr
          replace H := bd3 H; obtain ⟨r42, r43, S44, e45, H⟩ := H
          replace h : Fit z (sepL (ob96 B0 p0 ca1 cc2 ca3 cc4 :: ro2 ca1 cc2 p0.cell :: ro90 ca3 cc4 p0.log :: pts b6 (.cells #[.int .i64 0, .bool false, .int .i64 0] 39) :: ob30 b5 p1 :: L)) _ := h.sel 5 [2, 3, 4, 0, 1] (by kernel_rfl) (by kernel_rfl)
          have hc := cells_Arena_Reserve_ok (H := e45) (h := h)
          refine op_call (wn rfl) rfl rfl hr (f := 20) (args := #[.pointer (some ⟨B0, 0, none⟩), .int .i64 p1.A]) (by kernel_rfl) hc ?_; clear hc h
          rintro _ w ⟨caq46, ccq47, caq48, ccq49, rfl, h⟩; refine ⟨_, rfl, ?_⟩
          clear hr a; intro a hr
          refine ovs [74, 79, 80, 12, 13] [.tuple #[.int .i64 r42, .int .i64 r43], .int .i64 r42, .int .i64 r43, .int .i64 r42, .int .i64 r43] hr ⟨rfl, rfl⟩ (by kernel_rfl) ?_; clear hr a; intro a hr
          refine wpList_nil ?_
          refine then_normal ?_
          refine wp_seq ?_
          refine wp_region_lit ?_
          refine ovs [81, 82, 83, 84, 85] [.int .i64 r42, .int .i64 r43, .bool (r43 == (0 : Int)), .int .i64 r43, .agg #[.int .i64 r42, .bool (r43 == (0 : Int)), .int .i64 r43]] hr ⟨rfl, rfl⟩ (by kernel_rfl) ?_; clear hr a; intro a hr
          replace h : Fit z (sepL (pts b6 (.cells #[.int .i64 0, .bool false, .int .i64 0] 39) :: ob96 B0 S44 caq46 ccq47 caq48 ccq49 :: ro2 caq46 ccq47 S44.cell :: ro90 caq48 ccq49 S44.log :: ob30 b5 p1 :: L)) _ := h.sel 5 [3, 0, 1, 2, 4] (by kernel_rfl) (by kernel_rfl)
          refine op_stores (wn rfl) rfl hr rfl (by kernel_rfl) (by kernel_rfl) (vs := [.int .i64 r42, .bool (r43 == (0 : Int)), .int .i64 r43]) rfl rfl (by kernel_rfl) h (i := 0) (cs' := #[.int .i64 r42, .bool (r43 == (0 : Int)), .int .i64 r43]) rfl ?_; clear h; intro w h
          refine wpList_nil ?_
          replace h : Fit z (sepL (pts b6 (.cells #[.int .i64 r42, .bool (r43 == (0 : Int)), .int .i64 r43] 39) :: ob96 B0 S44 caq46 ccq47 caq48 ccq49 :: ro2 caq46 ccq47 S44.cell :: ro90 caq48 ccq49 S44.log :: ob30 b5 p1 :: L)) _ := h
          refine then_normal ?_
          refine wp_ret ?_
          refine end_retC (cs := [.int .i64 r42, .bool (r43 == (0 : Int)), .int .i64 r43]) rfl hr (by kernel_rfl) (by kernel_rfl) (by kernel_rfl) ⟨h.cell 0 rfl, h.cell 1 rfl, h.cell 2 rfl, trivial⟩ ?_
          replace h : Fit z (sepL (ob96 B0 S44 caq46 ccq47 caq48 ccq49 :: ro2 caq46 ccq47 S44.cell :: ro90 caq48 ccq49 S44.log :: L)) _ := h.sel 5 [1, 2, 3] (by kernel_rfl) (by kernel_rfl)
          replace H := ej2 H; obtain ⟨rfl, rfl⟩ := H
          exact ⟨caq46, ccq47, caq48, ccq49, rfl, h⟩

/-- plunder/plunderlaw2.act -/
def plunderlaw2_act (p0 : T_plunderlaw2_Move) : Option (T_api_Act) :=
  some (⟨0, p0.Kind, p0.Addr, p0.A, p0.B⟩ : T_api_Act)
set_option maxRecDepth 100000 in
set_option maxHeartbeats 4000000 in
theorem plunderlaw2_act_ok {z w : World} {L : List HProp} {p0 : T_plunderlaw2_Move} {r0 : T_api_Act} (H : plunderlaw2_act p0 = some r0) (h : Fit z (sepL (L)) w)  :
    Calls Try.prog 31 #[.agg #[.int .i64 p0.Side, .int .i64 p0.Kind, .int .i64 p0.Addr, .int .i64 p0.A, .int .i64 p0.B]] w fun e w => e = .returned (.agg #[.int .i64 r0.Who, .int .i64 r0.Kind, .int .i64 r0.Addr, .int .i64 r0.A, .int .i64 r0.B]) ∧ Fit z (sepL (L)) w := by
  unfold plunderlaw2_act at H
  refine enter Try.func31 rfl 12 rfl rfl [(0, .agg #[.int .i64 p0.Side, .int .i64 p0.Kind, .int .i64 p0.Addr, .int .i64 p0.A, .int .i64 p0.B])] ⟨rfl, trivial⟩ ?_
  intro j a hr
  refine wp_seq ?_
  refine wp_region_lit ?_
  refine op_new (wn rfl) rfl rfl hr h (vf := fun b => .pointer (some ⟨b, 0, none⟩)) (cs := #[.int .i64 p0.Side, .int .i64 p0.Kind, .int .i64 p0.Addr, .int .i64 p0.A, .int .i64 p0.B]) (T := 30) (by kernel_rfl) ?_; clear h hr a; intro b1 w a h hr
  refine op_new (wn rfl) rfl rfl hr h (vf := fun b => .pointer (some ⟨b, 0, none⟩)) (cs := #[.int .i64 0, .int .i64 0, .int .i64 0, .int .i64 0, .int .i64 0]) (T := 57) (by kernel_rfl) ?_; clear h hr a; intro b2 w a h hr
  refine wpList_nil ?_
  refine then_normal ?_
  refine wp_seq ?_
  refine wp_region_lit ?_
  refine ov hr (.pointer (some ⟨b1, 1, none⟩)) (by kernel_rfl) ?_; clear hr a; intro a hr
  refine op_val (wn rfl) rfl rfl hr (v := .int .i64 p0.Kind) (rl rfl (by kernel_rfl) (by kernel_rfl) ((h.pick 1).cell 1 rfl)) ?_; clear hr a; intro a hr
  refine ov hr (.pointer (some ⟨b1, 2, none⟩)) (by kernel_rfl) ?_; clear hr a; intro a hr
  refine op_val (wn rfl) rfl rfl hr (v := .int .i64 p0.Addr) (rl rfl (by kernel_rfl) (by kernel_rfl) ((h.pick 1).cell 2 rfl)) ?_; clear hr a; intro a hr
  refine ov hr (.pointer (some ⟨b1, 3, none⟩)) (by kernel_rfl) ?_; clear hr a; intro a hr
  refine op_val (wn rfl) rfl rfl hr (v := .int .i64 p0.A) (rl rfl (by kernel_rfl) (by kernel_rfl) ((h.pick 1).cell 3 rfl)) ?_; clear hr a; intro a hr
  refine ov hr (.pointer (some ⟨b1, 4, none⟩)) (by kernel_rfl) ?_; clear hr a; intro a hr
  refine op_val (wn rfl) rfl rfl hr (v := .int .i64 p0.B) (rl rfl (by kernel_rfl) (by kernel_rfl) ((h.pick 1).cell 4 rfl)) ?_; clear hr a; intro a hr
  refine ov hr (.agg #[.int .i64 0, .int .i64 p0.Kind, .int .i64 p0.Addr, .int .i64 p0.A, .int .i64 p0.B]) (by kernel_rfl) ?_; clear hr a; intro a hr
  refine op_stores (wn rfl) rfl hr rfl (by kernel_rfl) (by kernel_rfl) (vs := [.int .i64 0, .int .i64 p0.Kind, .int .i64 p0.Addr, .int .i64 p0.A, .int .i64 p0.B]) rfl rfl (by kernel_rfl) h (i := 0) (cs' := #[.int .i64 0, .int .i64 p0.Kind, .int .i64 p0.Addr, .int .i64 p0.A, .int .i64 p0.B]) rfl ?_; clear h; intro w h
  refine wpList_nil ?_
  replace h : Fit z (sepL (pts b2 (.cells #[.int .i64 0, .int .i64 p0.Kind, .int .i64 p0.Addr, .int .i64 p0.A, .int .i64 p0.B] 57) :: ob30 b1 p0 :: L)) _ := h
  refine then_normal ?_
  refine wp_ret ?_
  refine end_retC (cs := [.int .i64 0, .int .i64 p0.Kind, .int .i64 p0.Addr, .int .i64 p0.A, .int .i64 p0.B]) rfl hr (by kernel_rfl) (by kernel_rfl) (by kernel_rfl) ⟨h.cell 0 rfl, h.cell 1 rfl, h.cell 2 rfl, h.cell 3 rfl, h.cell 4 rfl, trivial⟩ ?_
  replace h : Fit z (sepL (L)) _ := h.sel 2 [] (by kernel_rfl) (by kernel_rfl)
  replace H := ej1 H; subst H
  exact ⟨rfl, h⟩

/-- plunder/plunderref2.refused -/
def plunderref2_refused (p0 : Int) : Option (T_api_Effect) :=
  some (⟨0, false, p0⟩ : T_api_Effect)
set_option maxRecDepth 100000 in
set_option maxHeartbeats 4000000 in
theorem plunderref2_refused_ok {z w : World} {L : List HProp} {p0 : Int} {r0 : T_api_Effect} (H : plunderref2_refused p0 = some r0) (h : Fit z (sepL (L)) w)  :
    Calls Try.prog 78 #[.int .i64 p0] w fun e w => e = .returned (.agg #[.int .i64 r0.V, .bool r0.OK, .int .i64 r0.Err]) ∧ Fit z (sepL (L)) w := by
  unfold plunderref2_refused at H
  refine enter Try.func78 rfl 5 rfl rfl [(0, .int .i64 p0)] ⟨rfl, trivial⟩ ?_
  intro j a hr
  refine wp_seq ?_
  refine wp_region_lit ?_
  refine op_new (wn rfl) rfl rfl hr h (vf := fun b => .pointer (some ⟨b, 0, none⟩)) (cs := #[.int .i64 0, .bool false, .int .i64 0]) (T := 39) (by kernel_rfl) ?_; clear h hr a; intro b1 w a h hr
  refine wpList_nil ?_
  refine then_normal ?_
  refine wp_seq ?_
  refine wp_region_lit ?_
  refine ovs [3, 4] [.int .i64 p0, .agg #[.int .i64 0, .bool false, .int .i64 p0]] hr ⟨rfl, rfl⟩ (by kernel_rfl) ?_; clear hr a; intro a hr
  refine op_stores (wn rfl) rfl hr rfl (by kernel_rfl) (by kernel_rfl) (vs := [.int .i64 0, .bool false, .int .i64 p0]) rfl rfl (by kernel_rfl) h (i := 0) (cs' := #[.int .i64 0, .bool false, .int .i64 p0]) rfl ?_; clear h; intro w h
  refine wpList_nil ?_
  replace h : Fit z (sepL (pts b1 (.cells #[.int .i64 0, .bool false, .int .i64 p0] 39) :: L)) _ := h
  refine then_normal ?_
  refine wp_ret ?_
  refine end_retC (cs := [.int .i64 0, .bool false, .int .i64 p0]) rfl hr (by kernel_rfl) (by kernel_rfl) (by kernel_rfl) ⟨h.cell 0 rfl, h.cell 1 rfl, h.cell 2 rfl, trivial⟩ ?_
  replace h : Fit z (sepL (L)) _ := h.sel 1 [] (by kernel_rfl) (by kernel_rfl)
  replace H := ej1 H; subst H
  exact ⟨rfl, h⟩

/-- (*plunder/plunderref2.Arena).note -/
def plunderref2_Arena_note (p0 : T_plunderref2_Arena) (p1 : T_api_Access) : Option (T_plunderref2_Arena) :=
  (if p0.On = true then if (p0.Book.length + 1) * 48 ≤ 140737488355328 then some ({ p0 with Book := p0.Book ++ [p1] }) else none else some p0)
set_option maxRecDepth 100000 in
set_option maxHeartbeats 4000000 in
theorem plunderref2_Arena_note_ok {z w : World} {L : List HProp} {p0 : T_plunderref2_Arena} {p1 : T_api_Access} {B0 : Nat} {ca1 : Option Addr} {cc2 : Nat} {ca3 : Option Addr} {cc4 : Nat} {q0 : T_plunderref2_Arena} (H : plunderref2_Arena_note p0 p1 = some q0) (h : Fit z (sepL (ob62 B0 p0 ca1 cc2 ca3 cc4 :: ro2 ca1 cc2 p0.Held :: ro90 ca3 cc4 p0.Book :: L)) w)  :
    Calls Try.prog 80 #[.pointer (some ⟨B0, 0, none⟩), .agg #[.int .i64 p1.Who, .int .i64 p1.Kind, .int .i64 p1.Addr, .int .i64 p1.A, .int .i64 p1.B, .bool p1.OK]] w fun e w => ∃ caq0_1 : Option Addr, ∃ ccq0_2 : Nat, ∃ caq0_3 : Option Addr, ∃ ccq0_4 : Nat, e = .returned (.tuple #[]) ∧ Fit z (sepL (ob62 B0 q0 caq0_1 ccq0_2 caq0_3 ccq0_4 :: ro2 caq0_1 ccq0_2 q0.Held :: ro90 caq0_3 ccq0_4 q0.Book :: L)) w := by
  unfold plunderref2_Arena_note at H
  refine enter Try.func80 rfl 18 rfl rfl [(0, .pointer (some ⟨B0, 0, none⟩)), (1, .agg #[.int .i64 p1.Who, .int .i64 p1.Kind, .int .i64 p1.Addr, .int .i64 p1.A, .int .i64 p1.B, .bool p1.OK])] ⟨rfl, rfl, trivial⟩ ?_
  intro j a hr
  refine wp_seq ?_
  refine wp_region_lit ?_
  refine op_new (wn rfl) rfl rfl hr h (vf := fun b => .pointer (some ⟨b, 0, none⟩)) (cs := #[.int .i64 p1.Who, .int .i64 p1.Kind, .int .i64 p1.Addr, .int .i64 p1.A, .int .i64 p1.B, .bool p1.OK]) (T := 90) (by kernel_rfl) ?_; clear h hr a; intro b5 w a h hr
  refine wpList_nil ?_
  refine then_normal ?_
  refine wp_seq ?_
  refine wp_region_lit ?_
  refine ovs [4, 5, 6] [.pointer (some ⟨B0, 0, none⟩), .pointer (some ⟨B0, 0, none⟩), .pointer (some ⟨B0, 2, none⟩)] hr ⟨rfl, rfl⟩ (by kernel_rfl) ?_; clear hr a; intro a hr
  refine op_val (wn rfl) rfl rfl hr (v := .bool p0.On) (rl rfl (by kernel_rfl) (by kernel_rfl) ((h.pick 1).cell 2 rfl)) ?_; clear hr a; intro a hr
  refine wpList_nil ?_
  refine then_normal ?_
  by_cases c6 : p0.On = true
  ·
    replace H := ifT c6 H
    refine cond_tt hr (b := p0.On) (c6) ?_
    replace H := gd H; obtain ⟨c10, H⟩ := H
    refine reg_E (fun w => heldC w B0 4 [.slice ca3 p0.Book.length cc4] ∧ heldC w b5 0 [.int .i64 p1.Who, .int .i64 p1.Kind, .int .i64 p1.Addr, .int .i64 p1.A, .int .i64 p1.B, .bool p1.OK] ∧ True) [2, 3] h (by kernel_rfl) ?_; intro w h
    change wpAnyE _ _ _ _ _ _ 11 (Array.replicate 11 false) a w
    have hgo : ∀ w w', CellsGo w w' → (heldC w B0 4 [.slice ca3 p0.Book.length cc4] ∧ heldC w b5 0 [.int .i64 p1.Who, .int .i64 p1.Kind, .int .i64 p1.Addr, .int .i64 p1.A, .int .i64 p1.B, .bool p1.OK] ∧ True) → heldC w' B0 4 [.slice ca3 p0.Book.length cc4] ∧ heldC w' b5 0 [.int .i64 p1.Who, .int .i64 p1.Kind, .int .i64 p1.Addr, .int .i64 p1.A, .int .i64 p1.B, .bool p1.OK] ∧ True := fun w w' g hD => ⟨heldC_go _ _ _ _ _ g hD.1, heldC_go _ _ _ _ _ g hD.2.1, trivial⟩
    refine ev 10 0 rfl (by kernel_rfl) (wn rfl) hr (.pointer (some ⟨B0, 0, none⟩)) (fun w => by kernel_rfl) ?_; clear hr a; intro a hr
    refine ev 9 1 rfl (by kernel_rfl) (wn rfl) hr (.pointer (some ⟨B0, 0, none⟩)) (fun w => by kernel_rfl) ?_; clear hr a; intro a hr
    refine evD hgo ⟨⟨(h.pick 1).cell 4 rfl, trivial⟩, ⟨h.cell 0 rfl, h.cell 1 rfl, h.cell 2 rfl, h.cell 3 rfl, h.cell 4 rfl, h.cell 5 rfl, trivial⟩, trivial⟩ 8 2 rfl (by kernel_rfl) (wn rfl) hr (.pointer (some ⟨B0, 0, none⟩)) (fun w => by kernel_rfl) ?_; clear hr a; intro a hr
    refine evD hgo ⟨⟨(h.pick 1).cell 4 rfl, trivial⟩, ⟨h.cell 0 rfl, h.cell 1 rfl, h.cell 2 rfl, h.cell 3 rfl, h.cell 4 rfl, h.cell 5 rfl, trivial⟩, trivial⟩ 7 3 rfl (by kernel_rfl) (wn rfl) hr (.pointer (some ⟨B0, 4, none⟩)) (fun w => by kernel_rfl) ?_; clear hr a; intro a hr
    refine el [2, 3] (b := B0) (off := 4) (cs := [.slice ca3 p0.Book.length cc4]) (fun _ hk => ⟨hk, fun w hD => hD.1⟩) 6 4 rfl (by kernel_rfl) (wn rfl) hr (.slice ca3 p0.Book.length cc4) ⟨(h.pick 1).cell 4 rfl, trivial⟩ (fun w hc => rl rfl (by kernel_rfl) (by kernel_rfl) hc.1) ?_; clear hr a; intro a hr
    refine el [2, 3] (b := b5) (off := 0) (cs := [.int .i64 p1.Who, .int .i64 p1.Kind, .int .i64 p1.Addr, .int .i64 p1.A, .int .i64 p1.B, .bool p1.OK]) (fun _ hk => ⟨hk, fun w hD => hD.2.1⟩) 5 5 rfl (by kernel_rfl) (wn rfl) hr (.agg #[.int .i64 p1.Who, .int .i64 p1.Kind, .int .i64 p1.Addr, .int .i64 p1.A, .int .i64 p1.B, .bool p1.OK]) ⟨h.cell 0 rfl, h.cell 1 rfl, h.cell 2 rfl, h.cell 3 rfl, h.cell 4 rfl, h.cell 5 rfl, trivial⟩ (fun w hc => rlm (cs := [.int .i64 p1.Who, .int .i64 p1.Kind, .int .i64 p1.Addr, .int .i64 p1.A, .int .i64 p1.B, .bool p1.OK]) rfl (by kernel_rfl) (by kernel_rfl) (by kernel_rfl) hc) ?_; clear hr a; intro a hr
    refine e_one (fuel := 4) (i := 6) (by kernel_rfl) rfl ?_
    refine op_new (wn rfl) rfl rfl hr h (vf := fun b => .slice (some ⟨b, 0, none⟩) 1 1) (cs := #[.int .i64 p1.Who, .int .i64 p1.Kind, .int .i64 p1.Addr, .int .i64 p1.A, .int .i64 p1.B, .bool p1.OK]) (T := 90) (by kernel_rfl) ?_; clear h hr a; intro b7 w a h hr
    refine wpList_nil ?_; refine then_normal ?_
    refine ⟨fun hE => absurd hE (by decide), ?_⟩
    refine e_one (fuel := 3) (i := 7) (by kernel_rfl) rfl ?_
    replace h : Fit z (sepL (ro90 ca3 cc4 p0.Book :: ob90 b7 p1 :: ob90 b5 p1 :: ob62 B0 p0 ca1 cc2 ca3 cc4 :: ro2 ca1 cc2 p0.Held :: L)) _ := h.sel 5 [4, 0, 1, 2, 3] (by kernel_rfl) (by kernel_rfl)
    refine op_append (n0 := p0.Book.length) (c := 1) (bytes := 48) (wn rfl) rfl rfl hr rfl (by kernel_rfl) (by kernel_rfl) enc_T_api_Access_ok (E := 90) (xs := p0.Book) (by kernel_rfl) (by kernel_rfl) h (news := [p1]) (m := 1) rfl ((h.pick 1).news rfl) c10 rfl ?_; clear h hr a; intro ca8 cc9 w a h hr
    refine wpList_nil ?_; refine then_normal ?_
    replace h : Fit z (sepL (ro90 ca8 cc9 (p0.Book ++ [p1]) :: ob90 b7 p1 :: ob90 b5 p1 :: ob62 B0 p0 ca1 cc2 ca3 cc4 :: ro2 ca1 cc2 p0.Held :: L)) _ := h
    refine ⟨fun hE => absurd hE (by decide), ?_⟩
    refine ev 2 8 rfl (by kernel_rfl) (wn rfl) hr (.pointer (some ⟨B0, 0, none⟩)) (fun w => by kernel_rfl) ?_; clear hr a; intro a hr
    refine ev 1 9 rfl (by kernel_rfl) (wn rfl) hr (.pointer (some ⟨B0, 4, none⟩)) (fun w => by kernel_rfl) ?_; clear hr a; intro a hr
    refine e_one (fuel := 0) (i := 10) (by kernel_rfl) rfl ?_
    replace h : Fit z (sepL (ob62 B0 p0 ca1 cc2 ca3 cc4 :: ro90 ca8 cc9 (p0.Book ++ [p1]) :: ob90 b7 p1 :: ob90 b5 p1 :: ro2 ca1 cc2 p0.Held :: L)) _ := h.sel 5 [3, 0, 1, 2, 4] (by kernel_rfl) (by kernel_rfl)
    refine op_store (wn rfl) rfl hr rfl (by kernel_rfl) (by kernel_rfl) (v := .slice ca8 ((p0.Book ++ [p1]).length) cc9) rfl rfl (by kernel_rfl) h (i := 4) rfl ?_; clear h; intro w h
    refine wpList_nil ?_; refine then_normal ?_
    replace h : Fit z (sepL (pts B0 (.cells #[.int .i64 p0.Most, .slice ca1 p0.Held.length cc2, .bool p0.On, .int .i64 p0.Actor, .slice ca8 ((p0.Book ++ [p1]).length) cc9] 62) :: ro90 ca8 cc9 (p0.Book ++ [p1]) :: ob90 b7 p1 :: ob90 b5 p1 :: ro2 ca1 cc2 p0.Held :: L)) _ := h
    refine ⟨fun hE => absurd hE (by decide), ?_⟩
    refine e_end (by kernel_rfl) ?_
    refine end_norm0 rfl hr ?_
    replace h : Fit z (sepL (pts B0 (.cells #[.int .i64 p0.Most, .slice ca1 p0.Held.length cc2, .bool p0.On, .int .i64 p0.Actor, .slice ca8 ((p0.Book ++ [p1]).length) cc9] 62) :: ro2 ca1 cc2 p0.Held :: ro90 ca8 cc9 (p0.Book ++ [p1]) :: L)) _ := h.sel 5 [0, 4, 1] (by kernel_rfl) (by kernel_rfl)
    replace H := ej1 H; subst H
    exact ⟨ca1, cc2, ca8, cc9, rfl, h⟩
  ·
    replace H := ifF c6 H
    refine cond_ff hr (b := p0.On) (bF c6) ?_
    refine wp_skip ?_
    refine end_norm0 rfl hr ?_
    replace h : Fit z (sepL (ob62 B0 p0 ca1 cc2 ca3 cc4 :: ro2 ca1 cc2 p0.Held :: ro90 ca3 cc4 p0.Book :: L)) _ := h.sel 4 [1, 2, 3] (by kernel_rfl) (by kernel_rfl)
    replace H := ej1 H; subst H
    exact ⟨ca1, cc2, ca3, cc4, rfl, h⟩

def plunderref2_Arena_reserve_l1 (K : Nat) (p1 : Int) : Nat → (List Int) → Int → Option ((List Int))
  | 0, _, _ => none
  | k1 + 1, l19, g20 => (if g20 < p1 then if (l19.length + 1) * 8 ≤ 140737488355328 then (plunderref2_Arena_reserve_l1 K p1 k1 (l19 ++ [0]) (wi (g20 + (1 : Int)))) else none else some l19)
/-- (*plunder/plunderref2.Arena).reserve -/
def plunderref2_Arena_reserve (K : Nat) (p0 : T_plunderref2_Arena) (p1 : Int) : Option (T_api_Effect × T_plunderref2_Arena) :=
  (if p1 < (1 : Int) then ob1 (plunderref2_refused 21) (fun r7 => some (r7, p0)) else (if p1 > (wi (p0.Most - ((p0.Held.length : Nat) : Int))) then ob1 (plunderref2_refused 22) (fun r10 => some (r10, p0)) else ob1 ((plunderref2_Arena_reserve_l1 K p1 K p0.Held 0)) (fun l14 => ob1 (plunderref2_Arena_note ({ p0 with Held := l14 }) (⟨p0.Actor, 4, ((p0.Held.length : Nat) : Int), p1, 0, true⟩ : T_api_Access)) (fun S26 => some ((⟨((p0.Held.length : Nat) : Int), true, 0⟩ : T_api_Effect), S26)))))
set_option maxRecDepth 100000 in
set_option maxHeartbeats 4000000 in
theorem plunderref2_Arena_reserve_ok {z w : World} {L : List HProp} {K : Nat} {p0 : T_plunderref2_Arena} {p1 : Int} {B0 : Nat} {ca1 : Option Addr} {cc2 : Nat} {ca3 : Option Addr} {cc4 : Nat} {r0 : T_api_Effect} {q0 : T_plunderref2_Arena} (H : plunderref2_Arena_reserve K p0 p1 = some (r0, q0)) (h : Fit z (sepL (ob62 B0 p0 ca1 cc2 ca3 cc4 :: ro2 ca1 cc2 p0.Held :: ro90 ca3 cc4 p0.Book :: L)) w)  :
    Calls Try.prog 79 #[.pointer (some ⟨B0, 0, none⟩), .int .i64 p1] w fun e w => ∃ caq0_1 : Option Addr, ∃ ccq0_2 : Nat, ∃ caq0_3 : Option Addr, ∃ ccq0_4 : Nat, e = .returned (.agg #[.int .i64 r0.V, .bool r0.OK, .int .i64 r0.Err]) ∧ Fit z (sepL (ob62 B0 q0 caq0_1 ccq0_2 caq0_3 ccq0_4 :: ro2 caq0_1 ccq0_2 q0.Held :: ro90 caq0_3 ccq0_4 q0.Book :: L)) w := by
  unfold plunderref2_Arena_reserve at H
  refine enter Try.func79 rfl 53 rfl rfl [(0, .pointer (some ⟨B0, 0, none⟩)), (1, .int .i64 p1)] ⟨rfl, rfl, trivial⟩ ?_
  intro j a hr
  refine wp_seq ?_
  refine wp_region_lit ?_
  refine op_new (wn rfl) rfl rfl hr h (vf := fun b => .pointer (some ⟨b, 0, none⟩)) (cs := #[.int .i64 0, .bool false, .int .i64 0]) (T := 39) (by kernel_rfl) ?_; clear h hr a; intro b5 w a h hr
  refine wpList_nil ?_
  refine then_normal ?_
  refine wp_seq ?_
  refine wp_seq ?_
  refine wp_region_lit ?_
  refine ovs [7, 8] [.int .i64 p1, .bool (decide (p1 < (1 : Int)))] hr ⟨rfl, rfl⟩ (by kernel_rfl) ?_; clear hr a; intro a hr
  refine wpList_nil ?_
  refine then_normal ?_
  by_cases c6 : p1 < (1 : Int)
  ·
    replace H := ifT c6 H
    refine cond_tt hr (b := (decide (p1 < (1 : Int)))) (decide_eq_true c6) ?_
    refine wp_seq ?_
    refine wp_region_lit ?_
    replace H := bd1 H; obtain ⟨r7, e8, H⟩ := H
    have hc := plunderref2_refused_ok (H := e8) (h := h)
    refine op_call (wn rfl) rfl rfl hr (f := 78) (args := #[.int .i64 21]) (by kernel_rfl) hc ?_; clear hc h
    rintro _ w ⟨rfl, h⟩; refine ⟨_, rfl, ?_⟩
    clear hr a; intro a hr
    refine op_stores (wn rfl) rfl hr rfl (by kernel_rfl) (by kernel_rfl) (vs := [.int .i64 r7.V, .bool r7.OK, .int .i64 r7.Err]) rfl rfl (by kernel_rfl) h (i := 0) (cs' := #[.int .i64 r7.V, .bool r7.OK, .int .i64 r7.Err]) rfl ?_; clear h; intro w h
    refine wpList_nil ?_
    replace h : Fit z (sepL (ob39 b5 r7 :: ob62 B0 p0 ca1 cc2 ca3 cc4 :: ro2 ca1 cc2 p0.Held :: ro90 ca3 cc4 p0.Book :: L)) _ := h
    refine then_normal ?_
    refine wp_ret ?_
    refine then_ret ?_
    refine end_retC (cs := [.int .i64 r7.V, .bool r7.OK, .int .i64 r7.Err]) rfl hr (by kernel_rfl) (by kernel_rfl) (by kernel_rfl) ⟨h.cell 0 rfl, h.cell 1 rfl, h.cell 2 rfl, trivial⟩ ?_
    replace h : Fit z (sepL (ob62 B0 p0 ca1 cc2 ca3 cc4 :: ro2 ca1 cc2 p0.Held :: ro90 ca3 cc4 p0.Book :: L)) _ := h.sel 4 [1, 2, 3] (by kernel_rfl) (by kernel_rfl)
    replace H := ej2 H; obtain ⟨rfl, rfl⟩ := H
    exact ⟨ca1, cc2, ca3, cc4, rfl, h⟩
  ·
    replace H := ifF c6 H
    refine cond_ff hr (b := (decide (p1 < (1 : Int)))) (decide_eq_false c6) ?_
    refine wp_skip ?_
    refine then_normal ?_
    refine wp_seq ?_
    refine wp_seq ?_
    refine reg_E (fun w => heldC w B0 0 [.int .i64 p0.Most] ∧ heldC w B0 1 [.slice ca1 p0.Held.length cc2] ∧ True) [2, 3, 6, 7, 9] h (by kernel_rfl) ?_; intro w h
    change wpAnyE _ _ _ _ _ _ 12 (Array.replicate 12 false) a w
    have hgo : ∀ w w', CellsGo w w' → (heldC w B0 0 [.int .i64 p0.Most] ∧ heldC w B0 1 [.slice ca1 p0.Held.length cc2] ∧ True) → heldC w' B0 0 [.int .i64 p0.Most] ∧ heldC w' B0 1 [.slice ca1 p0.Held.length cc2] ∧ True := fun w w' g hD => ⟨heldC_go _ _ _ _ _ g hD.1, heldC_go _ _ _ _ _ g hD.2.1, trivial⟩
    refine ev 11 0 rfl (by kernel_rfl) (wn rfl) hr (.int .i64 p1) (fun w => by kernel_rfl) ?_; clear hr a; intro a hr
    refine ev 10 1 rfl (by kernel_rfl) (wn rfl) hr (.pointer (some ⟨B0, 0, none⟩)) (fun w => by kernel_rfl) ?_; clear hr a; intro a hr
    refine evD hgo ⟨⟨(h.pick 1).cell 0 rfl, trivial⟩, ⟨(h.pick 1).cell 1 rfl, trivial⟩, trivial⟩ 9 2 rfl (by kernel_rfl) (wn rfl) hr (.pointer (some ⟨B0, 0, none⟩)) (fun w => by kernel_rfl) ?_; clear hr a; intro a hr
    refine evD hgo ⟨⟨(h.pick 1).cell 0 rfl, trivial⟩, ⟨(h.pick 1).cell 1 rfl, trivial⟩, trivial⟩ 8 3 rfl (by kernel_rfl) (wn rfl) hr (.pointer (some ⟨B0, 0, none⟩)) (fun w => by kernel_rfl) ?_; clear hr a; intro a hr
    refine ev 7 5 rfl (by kernel_rfl) (wn rfl) hr (.pointer (some ⟨B0, 0, none⟩)) (fun w => by kernel_rfl) ?_; clear hr a; intro a hr
    refine evD hgo ⟨⟨(h.pick 1).cell 0 rfl, trivial⟩, ⟨(h.pick 1).cell 1 rfl, trivial⟩, trivial⟩ 6 6 rfl (by kernel_rfl) (wn rfl) hr (.pointer (some ⟨B0, 0, none⟩)) (fun w => by kernel_rfl) ?_; clear hr a; intro a hr
    refine evD hgo ⟨⟨(h.pick 1).cell 0 rfl, trivial⟩, ⟨(h.pick 1).cell 1 rfl, trivial⟩, trivial⟩ 5 7 rfl (by kernel_rfl) (wn rfl) hr (.pointer (some ⟨B0, 1, none⟩)) (fun w => by kernel_rfl) ?_; clear hr a; intro a hr
    refine el [2, 3, 6, 7, 9] (b := B0) (off := 0) (cs := [.int .i64 p0.Most]) (fun _ hk => ⟨hk, fun w hD => hD.1⟩) 4 4 rfl (by kernel_rfl) (wn rfl) hr (.int .i64 p0.Most) ⟨(h.pick 1).cell 0 rfl, trivial⟩ (fun w hc => rl rfl (by kernel_rfl) (by kernel_rfl) hc.1) ?_; clear hr a; intro a hr
    refine el [2, 3, 6, 7, 9] (b := B0) (off := 1) (cs := [.slice ca1 p0.Held.length cc2]) (fun _ hk => ⟨hk, fun w hD => hD.2.1⟩) 3 8 rfl (by kernel_rfl) (wn rfl) hr (.slice ca1 p0.Held.length cc2) ⟨(h.pick 1).cell 1 rfl, trivial⟩ (fun w hc => rl rfl (by kernel_rfl) (by kernel_rfl) hc.1) ?_; clear hr a; intro a hr
    refine evD hgo ⟨⟨(h.pick 1).cell 0 rfl, trivial⟩, ⟨(h.pick 1).cell 1 rfl, trivial⟩, trivial⟩ 2 9 rfl (by kernel_rfl) (wn rfl) hr (.int .i64 ((p0.Held.length : Nat) : Int)) (fun w => by kernel_rfl) ?_; clear hr a; intro a hr
    refine ev 1 10 rfl (by kernel_rfl) (wn rfl) hr (.int .i64 (wi (p0.Most - ((p0.Held.length : Nat) : Int)))) (fun w => by kernel_rfl) ?_; clear hr a; intro a hr
    refine ev 0 11 rfl (by kernel_rfl) (wn rfl) hr (.bool (decide (p1 > (wi (p0.Most - ((p0.Held.length : Nat) : Int)))))) (fun w => by kernel_rfl) ?_; clear hr a; intro a hr
    refine e_end (by kernel_rfl) ?_
    refine then_normal ?_
    by_cases c9 : p1 > (wi (p0.Most - ((p0.Held.length : Nat) : Int)))
    ·
      replace H := ifT c9 H
      refine cond_tt hr (b := (decide (p1 > (wi (p0.Most - ((p0.Held.length : Nat) : Int)))))) (decide_eq_true c9) ?_
      refine wp_seq ?_
      refine wp_region_lit ?_
      replace H := bd1 H; obtain ⟨r10, e11, H⟩ := H
      have hc := plunderref2_refused_ok (H := e11) (h := h)
      refine op_call (wn rfl) rfl rfl hr (f := 78) (args := #[.int .i64 22]) (by kernel_rfl) hc ?_; clear hc h
      rintro _ w ⟨rfl, h⟩; refine ⟨_, rfl, ?_⟩
      clear hr a; intro a hr
      refine op_stores (wn rfl) rfl hr rfl (by kernel_rfl) (by kernel_rfl) (vs := [.int .i64 r10.V, .bool r10.OK, .int .i64 r10.Err]) rfl rfl (by kernel_rfl) h (i := 0) (cs' := #[.int .i64 r10.V, .bool r10.OK, .int .i64 r10.Err]) rfl ?_; clear h; intro w h
      refine wpList_nil ?_
      replace h : Fit z (sepL (ob39 b5 r10 :: ob62 B0 p0 ca1 cc2 ca3 cc4 :: ro2 ca1 cc2 p0.Held :: ro90 ca3 cc4 p0.Book :: L)) _ := h
      refine then_normal ?_
      refine wp_ret ?_
      refine then_ret ?_
      refine end_retC (cs := [.int .i64 r10.V, .bool r10.OK, .int .i64 r10.Err]) rfl hr (by kernel_rfl) (by kernel_rfl) (by kernel_rfl) ⟨h.cell 0 rfl, h.cell 1 rfl, h.cell 2 rfl, trivial⟩ ?_
      replace h : Fit z (sepL (ob62 B0 p0 ca1 cc2 ca3 cc4 :: ro2 ca1 cc2 p0.Held :: ro90 ca3 cc4 p0.Book :: L)) _ := h.sel 4 [1, 2, 3] (by kernel_rfl) (by kernel_rfl)
      replace H := ej2 H; obtain ⟨rfl, rfl⟩ := H
      exact ⟨ca1, cc2, ca3, cc4, rfl, h⟩
    ·
      replace H := ifF c9 H
      refine cond_ff hr (b := (decide (p1 > (wi (p0.Most - ((p0.Held.length : Nat) : Int)))))) (decide_eq_false c9) ?_
      refine wp_skip ?_
      refine then_normal ?_
      refine wp_seq ?_
      refine wp_region_lit ?_
      refine ovs [23, 24, 25] [.pointer (some ⟨B0, 0, none⟩), .pointer (some ⟨B0, 0, none⟩), .pointer (some ⟨B0, 1, none⟩)] hr ⟨rfl, rfl⟩ (by kernel_rfl) ?_; clear hr a; intro a hr
      refine op_val (wn rfl) rfl rfl hr (v := .slice ca1 p0.Held.length cc2) (rl rfl (by kernel_rfl) (by kernel_rfl) ((h.pick 1).cell 1 rfl)) ?_; clear hr a; intro a hr
      refine ovs [27, 5] [.int .i64 ((p0.Held.length : Nat) : Int), .int .i64 ((p0.Held.length : Nat) : Int)] hr ⟨rfl, rfl⟩ (by kernel_rfl) ?_; clear hr a; intro a hr
      refine wpList_nil ?_
      refine then_normal ?_
      replace H := kd1 H; obtain ⟨o16, H, hK15⟩ := H
      refine cut_rule (β := Unit) (fun _ a w => ∃ ca12 : Option Addr, ∃ cc13 : Nat, ∃ l14 : List Int, l14 = o16 ∧ ∃ j, Rep 53 (lk [(0, .pointer (some ⟨B0, 0, none⟩)), (1, .int .i64 p1), (4, .pointer (some ⟨b5, 0, none⟩)), (5, .int .i64 ((p0.Held.length : Nat) : Int))] j) a ∧ Fit z (sepL (pts B0 (.cells #[.int .i64 p0.Most, .slice ca12 l14.length cc13, .bool p0.On, .int .i64 p0.Actor, .slice ca3 p0.Book.length cc4] 62) :: ro2 ca12 cc13 l14 :: ro90 ca3 cc4 p0.Book :: pts b5 (.cells #[.int .i64 0, .bool false, .int .i64 0] 39) :: L)) w) ?_ ?_
      ·
        refine wp_seq ?_
        refine wp_region_lit ?_
        refine ov hr (.int .i64 0) (by kernel_rfl) ?_; clear hr a; intro a hr
        refine wpList_nil ?_
        refine then_normal ?_
        refine wp_block ?_
        replace hr := hr.fold2 [(0, .pointer (some ⟨B0, 0, none⟩)), (1, .int .i64 p1), (4, .pointer (some ⟨b5, 0, none⟩)), (5, .int .i64 ((p0.Held.length : Nat) : Int)), (6, .int .i64 0)] (by kernel_rfl); obtain ⟨j, hr⟩ := hr
        replace h : Fit z (sepL (ob62 B0 p0 ca1 cc2 ca3 cc4 :: ro2 ca1 cc2 p0.Held :: ro90 ca3 cc4 p0.Book :: pts b5 (.cells #[.int .i64 0, .bool false, .int .i64 0] 39) :: L)) _ := h.sel 4 [1, 2, 3, 0] (by kernel_rfl) (by kernel_rfl)
        refine loop_rule (β := Nat) id (fun m a w => ∃ ca17 : Option Addr, ∃ cc18 : Nat, ∃ l19 : List Int, ∃ g20 : Int, (plunderref2_Arena_reserve_l1 K p1 m l19 g20) = some o16 ∧ ∃ j, Rep 53 (lk [(0, .pointer (some ⟨B0, 0, none⟩)), (1, .int .i64 p1), (4, .pointer (some ⟨b5, 0, none⟩)), (5, .int .i64 ((p0.Held.length : Nat) : Int)), (6, .int .i64 g20)] j) a ∧ Fit z (sepL (pts B0 (.cells #[.int .i64 p0.Most, .slice ca17 l19.length cc18, .bool p0.On, .int .i64 p0.Actor, .slice ca3 p0.Book.length cc4] 62) :: ro2 ca17 cc18 l19 :: ro90 ca3 cc4 p0.Book :: pts b5 (.cells #[.int .i64 0, .bool false, .int .i64 0] 39) :: L)) w) K ⟨ca1, cc2, p0.Held, 0, H, j, hr, h⟩ ?_
        clear h hr a H; rintro k1 a w ⟨ca17, cc18, l19, g20, H, j, hr, h⟩
        cases k1 with
        | zero => exact absurd H (by simp [plunderref2_Arena_reserve_l1])
        | succ k1 =>
          rw [plunderref2_Arena_reserve_l1] at H
          refine wp_seq ?_
          refine wp_seq ?_
          refine wp_region_lit ?_
          refine ovs [28, 29, 30] [.int .i64 g20, .int .i64 p1, .bool (decide (g20 < p1))] hr ⟨rfl, rfl⟩ (by kernel_rfl) ?_; clear hr a; intro a hr
          refine wpList_nil ?_
          refine then_normal ?_
          by_cases c21 : g20 < p1
          ·
            replace H := ifT c21 H
            refine cond_tt hr (b := (decide (g20 < p1))) (decide_eq_true c21) ?_
            refine wp_skip ?_
            refine then_normal ?_
            refine wp_seq ?_
            refine wp_block ?_
            refine wp_region_lit ?_
            refine ovs [33, 34, 35, 36] [.pointer (some ⟨B0, 0, none⟩), .pointer (some ⟨B0, 0, none⟩), .pointer (some ⟨B0, 0, none⟩), .pointer (some ⟨B0, 1, none⟩)] hr ⟨rfl, rfl⟩ (by kernel_rfl) ?_; clear hr a; intro a hr
            refine op_val (wn rfl) rfl rfl hr (v := .slice ca17 l19.length cc18) (rl rfl (by kernel_rfl) (by kernel_rfl) (h.cell 1 rfl)) ?_; clear hr a; intro a hr
            refine op_new (wn rfl) rfl rfl hr h (vf := fun b => .slice (some ⟨b, 0, none⟩) 1 1) (cs := #[.int .i64 0]) (T := 2) (by kernel_rfl) ?_; clear h hr a; intro b22 w a h hr
            replace h : Fit z (sepL (ro2 ca17 cc18 l19 :: pts b22 (.cells #[.int .i64 0] 2) :: pts B0 (.cells #[.int .i64 p0.Most, .slice ca17 l19.length cc18, .bool p0.On, .int .i64 p0.Actor, .slice ca3 p0.Book.length cc4] 62) :: ro90 ca3 cc4 p0.Book :: pts b5 (.cells #[.int .i64 0, .bool false, .int .i64 0] 39) :: L)) _ := h.sel 5 [2, 0, 1, 3, 4] (by kernel_rfl) (by kernel_rfl)
            replace H := gd H; obtain ⟨c25, H⟩ := H
            refine op_append (n0 := l19.length) (c := 1) (bytes := 8) (wn rfl) rfl rfl hr rfl (by kernel_rfl) (by kernel_rfl) encZ_i64_ok (E := 2) (xs := l19) (by kernel_rfl) (by kernel_rfl) h (news := [0]) (m := 1) rfl ((h.pick 1).news rfl) c25 rfl ?_; clear h hr a; intro ca23 cc24 w a h hr
            refine ovs [40, 41] [.pointer (some ⟨B0, 0, none⟩), .pointer (some ⟨B0, 1, none⟩)] hr ⟨rfl, rfl⟩ (by kernel_rfl) ?_; clear hr a; intro a hr
            replace h : Fit z (sepL (pts B0 (.cells #[.int .i64 p0.Most, .slice ca17 l19.length cc18, .bool p0.On, .int .i64 p0.Actor, .slice ca3 p0.Book.length cc4] 62) :: ro2 ca23 cc24 (l19 ++ [0]) :: pts b22 (.cells #[.int .i64 0] 2) :: ro90 ca3 cc4 p0.Book :: pts b5 (.cells #[.int .i64 0, .bool false, .int .i64 0] 39) :: L)) _ := h.sel 5 [2, 0, 1, 3, 4] (by kernel_rfl) (by kernel_rfl)
            refine op_store (wn rfl) rfl hr rfl (by kernel_rfl) (by kernel_rfl) (v := .slice ca23 ((l19 ++ [0]).length) cc24) rfl rfl (by kernel_rfl) h (i := 1) rfl ?_; clear h; intro w h
            refine wpList_nil ?_
            replace h : Fit z (sepL (pts B0 (.cells #[.int .i64 p0.Most, .slice ca23 ((l19 ++ [0]).length) cc24, .bool p0.On, .int .i64 p0.Actor, .slice ca3 p0.Book.length cc4] 62) :: ro2 ca23 cc24 (l19 ++ [0]) :: pts b22 (.cells #[.int .i64 0] 2) :: ro90 ca3 cc4 p0.Book :: pts b5 (.cells #[.int .i64 0, .bool false, .int .i64 0] 39) :: L)) _ := h
            refine blk_normal ?_
            refine then_normal ?_
            refine wp_region_lit ?_
            refine ovs [31, 32, 6] [.int .i64 g20, .int .i64 (wi (g20 + (1 : Int))), .int .i64 (wi (g20 + (1 : Int)))] hr ⟨rfl, rfl⟩ (by kernel_rfl) ?_; clear hr a; intro a hr
            refine wpList_nil ?_
            refine then_normal ?_
            replace hr := hr.fold2 [(0, .pointer (some ⟨B0, 0, none⟩)), (1, .int .i64 p1), (4, .pointer (some ⟨b5, 0, none⟩)), (5, .int .i64 ((p0.Held.length : Nat) : Int)), (6, .int .i64 (wi (g20 + (1 : Int))))] (by kernel_rfl); obtain ⟨j, hr⟩ := hr
            replace h : Fit z (sepL (pts B0 (.cells #[.int .i64 p0.Most, .slice ca23 ((l19 ++ [0]).length) cc24, .bool p0.On, .int .i64 p0.Actor, .slice ca3 p0.Book.length cc4] 62) :: ro2 ca23 cc24 (l19 ++ [0]) :: ro90 ca3 cc4 p0.Book :: pts b5 (.cells #[.int .i64 0, .bool false, .int .i64 0] 39) :: L)) _ := h.sel 5 [0, 1, 3, 4] (by kernel_rfl) (by kernel_rfl)
            exact ⟨_, ⟨ca23, cc24, (l19 ++ [0]), (wi (g20 + (1 : Int))), H, j, hr, h⟩, Nat.lt_succ_self _⟩
          ·
            replace H := ifF c21 H
            refine cond_ff hr (b := (decide (g20 < p1))) (decide_eq_false c21) ?_
            refine wp_exit ?_
            refine then_exit ?_
            refine then_exit ?_
            refine blk_here ?_
            refine then_normal ?_
            replace hr := hr.fold2 [(0, .pointer (some ⟨B0, 0, none⟩)), (1, .int .i64 p1), (4, .pointer (some ⟨b5, 0, none⟩)), (5, .int .i64 ((p0.Held.length : Nat) : Int))] (by kernel_rfl); obtain ⟨j, hr⟩ := hr
            exact ⟨(), ca17, cc18, l19, sinj H, j, hr, h⟩
      clear h hr a; rintro _ a w ⟨ca12, cc13, l14, rfl, j, hr, h⟩
      replace H := kk1 hK15
      refine wp_seq ?_
      refine wp_region_lit ?_
      refine ovs [42, 43, 44, 45] [.pointer (some ⟨B0, 0, none⟩), .pointer (some ⟨B0, 0, none⟩), .pointer (some ⟨B0, 0, none⟩), .pointer (some ⟨B0, 3, none⟩)] hr ⟨rfl, rfl⟩ (by kernel_rfl) ?_; clear hr a; intro a hr
      refine op_val (wn rfl) rfl rfl hr (v := .int .i64 p0.Actor) (rl rfl (by kernel_rfl) (by kernel_rfl) (h.cell 3 rfl)) ?_; clear hr a; intro a hr
      replace H := bd1 H; obtain ⟨S26, e27, H⟩ := H
      refine ovs [47, 48, 49] [.int .i64 ((p0.Held.length : Nat) : Int), .int .i64 p1, .agg #[.int .i64 p0.Actor, .int .i64 4, .int .i64 ((p0.Held.length : Nat) : Int), .int .i64 p1, .int .i64 0, .bool true]] hr ⟨rfl, rfl⟩ (by kernel_rfl) ?_; clear hr a; intro a hr
      have hc := plunderref2_Arena_note_ok (H := e27) (h := h)
      refine op_call (wn rfl) rfl rfl hr (f := 80) (args := #[.pointer (some ⟨B0, 0, none⟩), .agg #[.int .i64 p0.Actor, .int .i64 4, .int .i64 ((p0.Held.length : Nat) : Int), .int .i64 p1, .int .i64 0, .bool true]]) (by kernel_rfl) hc ?_; clear hc h
      rintro _ w ⟨caq28, ccq29, caq30, ccq31, rfl, h⟩; refine ⟨_, rfl, ?_⟩
      clear hr a; intro a hr
      refine wpList_nil ?_
      refine then_normal ?_
      refine wp_seq ?_
      refine wp_region_lit ?_
      refine ovs [51, 52] [.int .i64 ((p0.Held.length : Nat) : Int), .agg #[.int .i64 ((p0.Held.length : Nat) : Int), .bool true, .int .i64 0]] hr ⟨rfl, rfl⟩ (by kernel_rfl) ?_; clear hr a; intro a hr
      replace h : Fit z (sepL (pts b5 (.cells #[.int .i64 0, .bool false, .int .i64 0] 39) :: ob62 B0 S26 caq28 ccq29 caq30 ccq31 :: ro2 caq28 ccq29 S26.Held :: ro90 caq30 ccq31 S26.Book :: L)) _ := h.sel 4 [3, 0, 1, 2] (by kernel_rfl) (by kernel_rfl)
      refine op_stores (wn rfl) rfl hr rfl (by kernel_rfl) (by kernel_rfl) (vs := [.int .i64 ((p0.Held.length : Nat) : Int), .bool true, .int .i64 0]) rfl rfl (by kernel_rfl) h (i := 0) (cs' := #[.int .i64 ((p0.Held.length : Nat) : Int), .bool true, .int .i64 0]) rfl ?_; clear h; intro w h
      refine wpList_nil ?_
      replace h : Fit z (sepL (pts b5 (.cells #[.int .i64 ((p0.Held.length : Nat) : Int), .bool true, .int .i64 0] 39) :: ob62 B0 S26 caq28 ccq29 caq30 ccq31 :: ro2 caq28 ccq29 S26.Held :: ro90 caq30 ccq31 S26.Book :: L)) _ := h
      refine then_normal ?_
      refine wp_ret ?_
      refine end_retC (cs := [.int .i64 ((p0.Held.length : Nat) : Int), .bool true, .int .i64 0]) rfl hr (by kernel_rfl) (by kernel_rfl) (by kernel_rfl) ⟨h.cell 0 rfl, h.cell 1 rfl, h.cell 2 rfl, trivial⟩ ?_
      replace h : Fit z (sepL (ob62 B0 S26 caq28 ccq29 caq30 ccq31 :: ro2 caq28 ccq29 S26.Held :: ro90 caq30 ccq31 S26.Book :: L)) _ := h.sel 4 [1, 2, 3] (by kernel_rfl) (by kernel_rfl)
      replace H := ej2 H; obtain ⟨rfl, rfl⟩ := H
      exact ⟨caq28, ccq29, caq30, ccq31, rfl, h⟩


end Go.Proofs.Ytacgigkonoegiaa.Mo
