/- what the functions compute, as plain Lean functions, and that they do -/
import Derived.Test.YtnghahgfcaolbaaFs0
namespace Go.Proofs.Ytnghahgfcaolbaa.Mo
open Go Go.RowKit Go.Proofs.Ytnghahgfcaolbaa.SL Go.Proofs.Ytnghahgfcaolbaa.GX
set_option linter.unusedVariables false
set_option linter.unusedSimpArgs false

/-- plunder/plunderlaw8.mod -/
def plunderlaw8_mod (p0 : Int) (p1 : Int) : Option (Int) :=
  if p1 ≠ 0 then (if (p0.tmod p1) < (0 : Int) then some (wi ((p0.tmod p1) + p1)) else some (p0.tmod p1)) else none
set_option maxRecDepth 100000 in
set_option maxHeartbeats 4000000 in
theorem plunderlaw8_mod_ok {z w : World} {L : List HProp} {p0 : Int} {p1 : Int} {r0 : Int} (H : plunderlaw8_mod p0 p1 = some r0) (h : Fit z (sepL (L)) w)  :
    Calls Try.prog 29 #[.int .i64 p0, .int .i64 p1] w fun e w => e = .returned (.int .i64 r0) ∧ Fit z (sepL (L)) w := by
  unfold plunderlaw8_mod at H
  refine enter Try.func29 rfl 15 rfl rfl [(0, .int .i64 p0), (1, .int .i64 p1)] ⟨rfl, rfl, trivial⟩ ?_
  intro j a hr
  refine wp_seq ?_
  refine wp_region_lit ?_
  refine ov hr (.int .i64 0) (by kernel_rfl) ?_; clear hr a; intro a hr
  refine wpList_nil ?_
  refine then_normal ?_
  refine wp_seq ?_
  refine wp_region_lit ?_
  replace H := gd H; obtain ⟨c1, H⟩ := H
  refine ovs [6, 7] [.int .i64 p0, .int .i64 p1] hr ⟨rfl, rfl⟩ (by kernel_rfl) ?_; clear hr a; intro a hr
  refine op_val (wn rfl) rfl rfl hr (v := .int .i64 (p0.tmod p1)) (rrem rfl (by kernel_rfl) (by kernel_rfl) c1) ?_; clear hr a; intro a hr
  refine ov hr (.int .i64 (p0.tmod p1)) (by kernel_rfl) ?_; clear hr a; intro a hr
  refine wpList_nil ?_
  refine then_normal ?_
  refine wp_seq ?_
  refine wp_seq ?_
  refine wp_region_lit ?_
  refine ovs [9, 10] [.int .i64 (p0.tmod p1), .bool (decide ((p0.tmod p1) < (0 : Int)))] hr ⟨rfl, rfl⟩ (by kernel_rfl) ?_; clear hr a; intro a hr
  refine wpList_nil ?_
  refine then_normal ?_
  by_cases c2 : (p0.tmod p1) < (0 : Int)
  ·
    replace H := ifT c2 H
    refine cond_tt hr (b := (decide ((p0.tmod p1) < (0 : Int)))) (decide_eq_true c2) ?_
    refine wp_region_lit ?_
    refine ovs [11, 12, 13, 5] [.int .i64 (p0.tmod p1), .int .i64 p1, .int .i64 (wi ((p0.tmod p1) + p1)), .int .i64 (wi ((p0.tmod p1) + p1))] hr ⟨rfl, rfl⟩ (by kernel_rfl) ?_; clear hr a; intro a hr
    refine wpList_nil ?_
    refine then_normal ?_
    refine wp_seq ?_
    refine wp_region_lit ?_
    refine ovs [14, 4] [.int .i64 (wi ((p0.tmod p1) + p1)), .int .i64 (wi ((p0.tmod p1) + p1))] hr ⟨rfl, rfl⟩ (by kernel_rfl) ?_; clear hr a; intro a hr
    refine wpList_nil ?_
    refine then_normal ?_
    refine wp_ret ?_
    refine end_ret1 (v := .int .i64 (wi ((p0.tmod p1) + p1))) rfl hr (by kernel_rfl) ?_
    replace H := ej1 H; subst H
    exact ⟨rfl, h⟩
  ·
    replace H := ifF c2 H
    refine cond_ff hr (b := (decide ((p0.tmod p1) < (0 : Int)))) (decide_eq_false c2) ?_
    refine wp_skip ?_
    refine then_normal ?_
    refine wp_seq ?_
    refine wp_region_lit ?_
    refine ovs [14, 4] [.int .i64 (p0.tmod p1), .int .i64 (p0.tmod p1)] hr ⟨rfl, rfl⟩ (by kernel_rfl) ?_; clear hr a; intro a hr
    refine wpList_nil ?_
    refine then_normal ?_
    refine wp_ret ?_
    refine end_ret1 (v := .int .i64 (p0.tmod p1)) rfl hr (by kernel_rfl) ?_
    replace H := ej1 H; subst H
    exact ⟨rfl, h⟩

/-- plunder/plunderref8.Cells -/
def plunderref8_Cells (p0 : Int) : Option (Int) :=
  (if p0 < (1 : Int) then some 0 else (if p0 > (4096 : Int) then some 0 else some (wi ((1 : Int) + (wi (p0 * (10 : Int)))))))
set_option maxRecDepth 100000 in
set_option maxHeartbeats 4000000 in
theorem plunderref8_Cells_ok {z w : World} {L : List HProp} {p0 : Int} {r0 : Int} (H : plunderref8_Cells p0 = some r0) (h : Fit z (sepL (L)) w)  :
    Calls Try.prog 16 #[.int .i64 p0] w fun e w => e = .returned (.int .i64 r0) ∧ Fit z (sepL (L)) w := by
  unfold plunderref8_Cells at H
  refine enter Try.func16 rfl 12 rfl rfl [(0, .int .i64 p0)] ⟨rfl, trivial⟩ ?_
  intro j a hr
  refine wp_seq ?_
  refine wp_region_lit ?_
  refine ov hr (.int .i64 0) (by kernel_rfl) ?_; clear hr a; intro a hr
  refine wpList_nil ?_
  refine then_normal ?_
  refine wp_seq ?_
  refine wp_seq ?_
  refine wp_region_lit ?_
  refine ovs [3, 4, 5] [.int .i64 p0, .bool (decide (p0 < (1 : Int))), .bool (decide (p0 < (1 : Int)))] hr ⟨rfl, rfl⟩ (by kernel_rfl) ?_; clear hr a; intro a hr
  by_cases c1 : p0 < (1 : Int)
  ·
    replace H := ifT c1 H
    refine op_off ((wg hr rfl rfl rfl (b' := (decide (p0 < (1 : Int)))) (by kernel_rfl)).trans (by rw [show (decide (p0 < (1 : Int))) = true from (decide_eq_true c1)]; rfl)) rfl rfl hr ?_; clear hr a; intro a hr
    refine op_off ((wg hr rfl rfl rfl (b' := (decide (p0 < (1 : Int)))) (by kernel_rfl)).trans (by rw [show (decide (p0 < (1 : Int))) = true from (decide_eq_true c1)]; rfl)) rfl rfl hr ?_; clear hr a; intro a hr
    refine op_val (wn rfl) rfl rfl hr (v := .bool true) (rp_t (b := (decide (p0 < (1 : Int)))) rfl (by kernel_rfl) (decide_eq_true c1) (by kernel_rfl)) ?_; clear hr a; intro a hr
    refine wpList_nil ?_
    refine then_normal ?_
    refine cond_tt hr (b := true) rfl ?_
    refine wp_seq ?_
    refine wp_region_lit ?_
    refine ov hr (.int .i64 0) (by kernel_rfl) ?_; clear hr a; intro a hr
    refine wpList_nil ?_
    refine then_normal ?_
    refine wp_ret ?_
    refine then_ret ?_
    refine end_ret1 (v := .int .i64 0) rfl hr (by kernel_rfl) ?_
    replace H := ej1 H; subst H
    exact ⟨rfl, h⟩
  ·
    replace H := ifF c1 H
    refine op_val ((wg hr rfl rfl rfl (b' := (decide (p0 < (1 : Int)))) (by kernel_rfl)).trans (by rw [show (decide (p0 < (1 : Int))) = false from (decide_eq_false c1)]; rfl)) rfl rfl hr (v := .int .i64 p0) (by kernel_rfl) ?_; clear hr a; intro a hr
    refine op_val ((wg hr rfl rfl rfl (b' := (decide (p0 < (1 : Int)))) (by kernel_rfl)).trans (by rw [show (decide (p0 < (1 : Int))) = false from (decide_eq_false c1)]; rfl)) rfl rfl hr (v := .bool (decide (p0 > (4096 : Int)))) (by kernel_rfl) ?_; clear hr a; intro a hr
    refine op_val (wn rfl) rfl rfl hr (v := .bool (decide (p0 > (4096 : Int)))) (rp_f (b := (decide (p0 < (1 : Int)))) rfl (by kernel_rfl) (decide_eq_false c1) (by kernel_rfl)) ?_; clear hr a; intro a hr
    refine wpList_nil ?_
    refine then_normal ?_
    by_cases c2 : p0 > (4096 : Int)
    ·
      replace H := ifT c2 H
      refine cond_tt hr (b := (decide (p0 > (4096 : Int)))) (decide_eq_true c2) ?_
      refine wp_seq ?_
      refine wp_region_lit ?_
      refine ov hr (.int .i64 0) (by kernel_rfl) ?_; clear hr a; intro a hr
      refine wpList_nil ?_
      refine then_normal ?_
      refine wp_ret ?_
      refine then_ret ?_
      refine end_ret1 (v := .int .i64 0) rfl hr (by kernel_rfl) ?_
      replace H := ej1 H; subst H
      exact ⟨rfl, h⟩
    ·
      replace H := ifF c2 H
      refine cond_ff hr (b := (decide (p0 > (4096 : Int)))) (decide_eq_false c2) ?_
      refine wp_skip ?_
      refine then_normal ?_
      refine wp_seq ?_
      refine wp_region_lit ?_
      refine ovs [9, 10, 11, 2] [.int .i64 p0, .int .i64 (wi (p0 * (10 : Int))), .int .i64 (wi ((1 : Int) + (wi (p0 * (10 : Int))))), .int .i64 (wi ((1 : Int) + (wi (p0 * (10 : Int)))))] hr ⟨rfl, rfl⟩ (by kernel_rfl) ?_; clear hr a; intro a hr
      refine wpList_nil ?_
      refine then_normal ?_
      refine wp_ret ?_
      refine end_ret1 (v := .int .i64 (wi ((1 : Int) + (wi (p0 * (10 : Int)))))) rfl hr (by kernel_rfl) ?_
      replace H := ej1 H; subst H
      exact ⟨rfl, h⟩

/-- plunder/plunderref2.New -/
def plunderref2_New (p0 : Int) : Option (T_plunderref2_Arena × Int) :=
  (if p0 < (0 : Int) then some ((⟨0, ([] : List Int), false, 0, ([] : List T_api_Access)⟩ : T_plunderref2_Arena), 3) else (if p0 > (1048576 : Int) then some ((⟨0, ([] : List Int), false, 0, ([] : List T_api_Access)⟩ : T_plunderref2_Arena), 3) else some ((⟨p0, ([] : List Int), false, 0, ([] : List T_api_Access)⟩ : T_plunderref2_Arena), 0)))
set_option maxRecDepth 100000 in
set_option maxHeartbeats 4000000 in
theorem plunderref2_New_ok {z w : World} {L : List HProp} {p0 : Int} {r0 : T_plunderref2_Arena} {r1 : Int} (H : plunderref2_New p0 = some (r0, r1)) (h : Fit z (sepL (L)) w)  :
    Calls Try.prog 13 #[.int .i64 p0] w fun e w => ∃ Bn0 : Nat, ∃ car0_1 : Option Addr, ∃ ccr0_2 : Nat, ∃ car0_3 : Option Addr, ∃ ccr0_4 : Nat, e = .returned (.tuple #[.pointer (some ⟨Bn0, 0, none⟩), .int .i64 r1]) ∧ Fit z (sepL (ob34 Bn0 r0 car0_1 ccr0_2 car0_3 ccr0_4 :: ro2 car0_1 ccr0_2 r0.Held :: ro96 car0_3 ccr0_4 r0.Book :: L)) w := by
  unfold plunderref2_New at H
  refine enter Try.func13 rfl 15 rfl rfl [(0, .int .i64 p0)] ⟨rfl, trivial⟩ ?_
  intro j a hr
  refine wp_seq ?_
  refine wp_region_lit ?_
  refine ovs [2, 3] [.pointer none, .int .i64 0] hr ⟨rfl, rfl⟩ (by kernel_rfl) ?_; clear hr a; intro a hr
  refine wpList_nil ?_
  refine then_normal ?_
  refine wp_seq ?_
  refine wp_seq ?_
  refine wp_region_lit ?_
  refine ovs [4, 5, 6] [.int .i64 p0, .bool (decide (p0 < (0 : Int))), .bool (decide (p0 < (0 : Int)))] hr ⟨rfl, rfl⟩ (by kernel_rfl) ?_; clear hr a; intro a hr
  by_cases c1 : p0 < (0 : Int)
  ·
    replace H := ifT c1 H
    refine op_off ((wg hr rfl rfl rfl (b' := (decide (p0 < (0 : Int)))) (by kernel_rfl)).trans (by rw [show (decide (p0 < (0 : Int))) = true from (decide_eq_true c1)]; rfl)) rfl rfl hr ?_; clear hr a; intro a hr
    refine op_off ((wg hr rfl rfl rfl (b' := (decide (p0 < (0 : Int)))) (by kernel_rfl)).trans (by rw [show (decide (p0 < (0 : Int))) = true from (decide_eq_true c1)]; rfl)) rfl rfl hr ?_; clear hr a; intro a hr
    refine op_val (wn rfl) rfl rfl hr (v := .bool true) (rp_t (b := (decide (p0 < (0 : Int)))) rfl (by kernel_rfl) (decide_eq_true c1) (by kernel_rfl)) ?_; clear hr a; intro a hr
    refine wpList_nil ?_
    refine then_normal ?_
    refine cond_tt hr (b := true) rfl ?_
    refine wp_seq ?_
    refine wp_region_lit ?_
    refine ov hr (.agg #[.int .i64 0, .slice none 0 0, .bool false, .int .i64 0, .slice none 0 0]) (by kernel_rfl) ?_; clear hr a; intro a hr
    refine op_new (wn rfl) rfl rfl hr h (vf := fun b => .pointer (some ⟨b, 0, none⟩)) (cs := #[.int .i64 0, .slice none 0 0, .bool false, .int .i64 0, .slice none 0 0]) (T := 34) (by kernel_rfl) ?_; clear h hr a; intro b2 w a h hr
    refine ovs [2, 3] [.pointer (some ⟨b2, 0, none⟩), .int .i64 3] hr ⟨rfl, rfl⟩ (by kernel_rfl) ?_; clear hr a; intro a hr
    refine wpList_nil ?_
    refine then_normal ?_
    refine wp_ret ?_
    refine then_ret ?_
    refine end_ret2 (v := .pointer (some ⟨b2, 0, none⟩)) (v' := .int .i64 3) rfl hr (by kernel_rfl) (by kernel_rfl) ?_
    replace h : Fit z (sepL (rowOf 2 1 encZ_i64 (.slice none 0 0) ([] : List Int) :: pts b2 (.cells #[.int .i64 0, .slice none 0 0, .bool false, .int .i64 0, .slice none 0 0] 34) :: L)) _ := h.row_nil
    replace h : Fit z (sepL (rowOf 96 6 enc_T_api_Access (.slice none 0 0) ([] : List T_api_Access) :: rowOf 2 1 encZ_i64 (.slice none 0 0) ([] : List Int) :: pts b2 (.cells #[.int .i64 0, .slice none 0 0, .bool false, .int .i64 0, .slice none 0 0] 34) :: L)) _ := h.row_nil
    replace h : Fit z (sepL (pts b2 (.cells #[.int .i64 0, .slice none 0 0, .bool false, .int .i64 0, .slice none 0 0] 34) :: rowOf 2 1 encZ_i64 (.slice none 0 0) ([] : List Int) :: rowOf 96 6 enc_T_api_Access (.slice none 0 0) ([] : List T_api_Access) :: L)) _ := h.sel 3 [2, 1, 0] (by kernel_rfl) (by kernel_rfl)
    replace H := ej2 H; obtain ⟨rfl, rfl⟩ := H
    exact ⟨b2, none, 0, none, 0, rfl, h⟩
  ·
    replace H := ifF c1 H
    refine op_val ((wg hr rfl rfl rfl (b' := (decide (p0 < (0 : Int)))) (by kernel_rfl)).trans (by rw [show (decide (p0 < (0 : Int))) = false from (decide_eq_false c1)]; rfl)) rfl rfl hr (v := .int .i64 p0) (by kernel_rfl) ?_; clear hr a; intro a hr
    refine op_val ((wg hr rfl rfl rfl (b' := (decide (p0 < (0 : Int)))) (by kernel_rfl)).trans (by rw [show (decide (p0 < (0 : Int))) = false from (decide_eq_false c1)]; rfl)) rfl rfl hr (v := .bool (decide (p0 > (1048576 : Int)))) (by kernel_rfl) ?_; clear hr a; intro a hr
    refine op_val (wn rfl) rfl rfl hr (v := .bool (decide (p0 > (1048576 : Int)))) (rp_f (b := (decide (p0 < (0 : Int)))) rfl (by kernel_rfl) (decide_eq_false c1) (by kernel_rfl)) ?_; clear hr a; intro a hr
    refine wpList_nil ?_
    refine then_normal ?_
    by_cases c3 : p0 > (1048576 : Int)
    ·
      replace H := ifT c3 H
      refine cond_tt hr (b := (decide (p0 > (1048576 : Int)))) (decide_eq_true c3) ?_
      refine wp_seq ?_
      refine wp_region_lit ?_
      refine ov hr (.agg #[.int .i64 0, .slice none 0 0, .bool false, .int .i64 0, .slice none 0 0]) (by kernel_rfl) ?_; clear hr a; intro a hr
      refine op_new (wn rfl) rfl rfl hr h (vf := fun b => .pointer (some ⟨b, 0, none⟩)) (cs := #[.int .i64 0, .slice none 0 0, .bool false, .int .i64 0, .slice none 0 0]) (T := 34) (by kernel_rfl) ?_; clear h hr a; intro b4 w a h hr
      refine ovs [2, 3] [.pointer (some ⟨b4, 0, none⟩), .int .i64 3] hr ⟨rfl, rfl⟩ (by kernel_rfl) ?_; clear hr a; intro a hr
      refine wpList_nil ?_
      refine then_normal ?_
      refine wp_ret ?_
      refine then_ret ?_
      refine end_ret2 (v := .pointer (some ⟨b4, 0, none⟩)) (v' := .int .i64 3) rfl hr (by kernel_rfl) (by kernel_rfl) ?_
      replace h : Fit z (sepL (rowOf 2 1 encZ_i64 (.slice none 0 0) ([] : List Int) :: pts b4 (.cells #[.int .i64 0, .slice none 0 0, .bool false, .int .i64 0, .slice none 0 0] 34) :: L)) _ := h.row_nil
      replace h : Fit z (sepL (rowOf 96 6 enc_T_api_Access (.slice none 0 0) ([] : List T_api_Access) :: rowOf 2 1 encZ_i64 (.slice none 0 0) ([] : List Int) :: pts b4 (.cells #[.int .i64 0, .slice none 0 0, .bool false, .int .i64 0, .slice none 0 0] 34) :: L)) _ := h.row_nil
      replace h : Fit z (sepL (pts b4 (.cells #[.int .i64 0, .slice none 0 0, .bool false, .int .i64 0, .slice none 0 0] 34) :: rowOf 2 1 encZ_i64 (.slice none 0 0) ([] : List Int) :: rowOf 96 6 enc_T_api_Access (.slice none 0 0) ([] : List T_api_Access) :: L)) _ := h.sel 3 [2, 1, 0] (by kernel_rfl) (by kernel_rfl)
      replace H := ej2 H; obtain ⟨rfl, rfl⟩ := H
      exact ⟨b4, none, 0, none, 0, rfl, h⟩
    ·
      replace H := ifF c3 H
      refine cond_ff hr (b := (decide (p0 > (1048576 : Int)))) (decide_eq_false c3) ?_
      refine wp_skip ?_
      refine then_normal ?_
      refine wp_seq ?_
      refine wp_region_lit ?_
      refine ovs [12, 13] [.int .i64 p0, .agg #[.int .i64 p0, .slice none 0 0, .bool false, .int .i64 0, .slice none 0 0]] hr ⟨rfl, rfl⟩ (by kernel_rfl) ?_; clear hr a; intro a hr
      refine op_new (wn rfl) rfl rfl hr h (vf := fun b => .pointer (some ⟨b, 0, none⟩)) (cs := #[.int .i64 p0, .slice none 0 0, .bool false, .int .i64 0, .slice none 0 0]) (T := 34) (by kernel_rfl) ?_; clear h hr a; intro b5 w a h hr
      refine ovs [2, 3] [.pointer (some ⟨b5, 0, none⟩), .int .i64 0] hr ⟨rfl, rfl⟩ (by kernel_rfl) ?_; clear hr a; intro a hr
      refine wpList_nil ?_
      refine then_normal ?_
      refine wp_ret ?_
      refine end_ret2 (v := .pointer (some ⟨b5, 0, none⟩)) (v' := .int .i64 0) rfl hr (by kernel_rfl) (by kernel_rfl) ?_
      replace h : Fit z (sepL (rowOf 2 1 encZ_i64 (.slice none 0 0) ([] : List Int) :: pts b5 (.cells #[.int .i64 p0, .slice none 0 0, .bool false, .int .i64 0, .slice none 0 0] 34) :: L)) _ := h.row_nil
      replace h : Fit z (sepL (rowOf 96 6 enc_T_api_Access (.slice none 0 0) ([] : List T_api_Access) :: rowOf 2 1 encZ_i64 (.slice none 0 0) ([] : List Int) :: pts b5 (.cells #[.int .i64 p0, .slice none 0 0, .bool false, .int .i64 0, .slice none 0 0] 34) :: L)) _ := h.row_nil
      replace h : Fit z (sepL (pts b5 (.cells #[.int .i64 p0, .slice none 0 0, .bool false, .int .i64 0, .slice none 0 0] 34) :: rowOf 2 1 encZ_i64 (.slice none 0 0) ([] : List Int) :: rowOf 96 6 enc_T_api_Access (.slice none 0 0) ([] : List T_api_Access) :: L)) _ := h.sel 3 [2, 1, 0] (by kernel_rfl) (by kernel_rfl)
      replace H := ej2 H; obtain ⟨rfl, rfl⟩ := H
      exact ⟨b5, none, 0, none, 0, rfl, h⟩

/-- plunder/cells.good -/
def cells_good (p0 : Int) : Option (Bool) :=
  (if p0 ≥ (0 : Int) then some (decide (p0 ≤ (1048576 : Int))) else some false)
set_option maxRecDepth 100000 in
set_option maxHeartbeats 4000000 in
theorem cells_good_ok {z w : World} {L : List HProp} {p0 : Int} {r0 : Bool} (H : cells_good p0 = some r0) (h : Fit z (sepL (L)) w)  :
    Calls Try.prog 53 #[.int .i64 p0] w fun e w => e = .returned (.bool r0) ∧ Fit z (sepL (L)) w := by
  unfold cells_good at H
  refine enter Try.func53 rfl 9 rfl rfl [(0, .int .i64 p0)] ⟨rfl, trivial⟩ ?_
  intro j a hr
  refine wp_seq ?_
  refine wp_region_lit ?_
  refine ov hr (.bool false) (by kernel_rfl) ?_; clear hr a; intro a hr
  refine wpList_nil ?_
  refine then_normal ?_
  refine wp_seq ?_
  refine wp_region_lit ?_
  refine ovs [3, 4, 5] [.int .i64 p0, .bool (decide (p0 ≥ (0 : Int))), .bool (decide (p0 ≥ (0 : Int)))] hr ⟨rfl, rfl⟩ (by kernel_rfl) ?_; clear hr a; intro a hr
  by_cases c1 : p0 ≥ (0 : Int)
  ·
    replace H := ifT c1 H
    refine op_val ((wg hr rfl rfl rfl (b' := (decide (p0 ≥ (0 : Int)))) (by kernel_rfl)).trans (by rw [show (decide (p0 ≥ (0 : Int))) = true from (decide_eq_true c1)]; rfl)) rfl rfl hr (v := .int .i64 p0) (by kernel_rfl) ?_; clear hr a; intro a hr
    refine op_val ((wg hr rfl rfl rfl (b' := (decide (p0 ≥ (0 : Int)))) (by kernel_rfl)).trans (by rw [show (decide (p0 ≥ (0 : Int))) = true from (decide_eq_true c1)]; rfl)) rfl rfl hr (v := .bool (decide (p0 ≤ (1048576 : Int)))) (by kernel_rfl) ?_; clear hr a; intro a hr
    refine op_val (wn rfl) rfl rfl hr (v := .bool (decide (p0 ≤ (1048576 : Int)))) (rp_t (b := (decide (p0 ≥ (0 : Int)))) rfl (by kernel_rfl) (decide_eq_true c1) (by kernel_rfl)) ?_; clear hr a; intro a hr
    refine ov hr (.bool (decide (p0 ≤ (1048576 : Int)))) (by kernel_rfl) ?_; clear hr a; intro a hr
    refine wpList_nil ?_
    refine then_normal ?_
    refine wp_ret ?_
    refine end_ret1 (v := .bool (decide (p0 ≤ (1048576 : Int)))) rfl hr (by kernel_rfl) ?_
    replace H := ej1 H; subst H
    exact ⟨rfl, h⟩
  ·
    replace H := ifF c1 H
    refine op_off ((wg hr rfl rfl rfl (b' := (decide (p0 ≥ (0 : Int)))) (by kernel_rfl)).trans (by rw [show (decide (p0 ≥ (0 : Int))) = false from (decide_eq_false c1)]; rfl)) rfl rfl hr ?_; clear hr a; intro a hr
    refine op_off ((wg hr rfl rfl rfl (b' := (decide (p0 ≥ (0 : Int)))) (by kernel_rfl)).trans (by rw [show (decide (p0 ≥ (0 : Int))) = false from (decide_eq_false c1)]; rfl)) rfl rfl hr ?_; clear hr a; intro a hr
    refine op_val (wn rfl) rfl rfl hr (v := .bool false) (rp_f (b := (decide (p0 ≥ (0 : Int)))) rfl (by kernel_rfl) (decide_eq_false c1) (by kernel_rfl)) ?_; clear hr a; intro a hr
    refine ov hr (.bool false) (by kernel_rfl) ?_; clear hr a; intro a hr
    refine wpList_nil ?_
    refine then_normal ?_
    refine wp_ret ?_
    refine end_ret1 (v := .bool false) rfl hr (by kernel_rfl) ?_
    replace H := ej1 H; subst H
    exact ⟨rfl, h⟩

/-- plunder/cells.New -/
def cells_New (p0 : Int) : Option ((Option T_cells_Arena) × Int) :=
  ob1 (cells_good p0) (fun r1 => (if r1 = true then some (some (⟨p0, 0, ([] : List Int), ([] : List T_api_Access), 0, false⟩ : T_cells_Arena), 0) else some (none, 3)))
set_option maxRecDepth 100000 in
set_option maxHeartbeats 4000000 in
theorem cells_New_ok0 {z w : World} {L : List HProp} {p0 : Int} {r0 : T_cells_Arena} {r1 : Int} (H : cells_New p0 = some ((some r0), r1)) (h : Fit z (sepL (L)) w)  :
    Calls Try.prog 14 #[.int .i64 p0] w fun e w => ∃ Bn0 : Nat, ∃ car0_1 : Option Addr, ∃ ccr0_2 : Nat, ∃ car0_3 : Option Addr, ∃ ccr0_4 : Nat, e = .returned (.tuple #[.pointer (some ⟨Bn0, 0, none⟩), .int .i64 r1]) ∧ Fit z (sepL (ob103 Bn0 r0 car0_1 ccr0_2 car0_3 ccr0_4 :: ro2 car0_1 ccr0_2 r0.cell :: ro96 car0_3 ccr0_4 r0.log :: L)) w := by
  unfold cells_New at H
  refine enter Try.func14 rfl 11 rfl rfl [(0, .int .i64 p0)] ⟨rfl, trivial⟩ ?_
  intro j a hr
  refine wp_seq ?_
  refine wp_region_lit ?_
  refine ovs [2, 3] [.pointer none, .int .i64 0] hr ⟨rfl, rfl⟩ (by kernel_rfl) ?_; clear hr a; intro a hr
  refine wpList_nil ?_
  refine then_normal ?_
  refine wp_seq ?_
  refine wp_seq ?_
  refine wp_region_lit ?_
  replace H := bd1 H; obtain ⟨r1, e2, H⟩ := H
  refine ov hr (.int .i64 p0) (by kernel_rfl) ?_; clear hr a; intro a hr
  have hc := cells_good_ok (H := e2) (h := h)
  refine op_call (wn rfl) rfl rfl hr (f := 53) (args := #[.int .i64 p0]) (by kernel_rfl) hc ?_; clear hc h
  rintro _ w ⟨rfl, h⟩; refine ⟨_, rfl, ?_⟩
  clear hr a; intro a hr
  refine ov hr (.bool (!r1)) (by kernel_rfl) ?_; clear hr a; intro a hr
  refine wpList_nil ?_
  refine then_normal ?_
  by_cases c3 : r1 = true
  ·
    replace H := ifT c3 H
    refine cond_ff hr (b := (!r1)) (by rw [show r1 = true from (c3)]; rfl) ?_
    refine wp_skip ?_
    refine then_normal ?_
    refine wp_seq ?_
    refine wp_region_lit ?_
    refine ovs [7, 8, 9] [.int .i64 p0, .agg #[.int .i64 p0, .int .i64 0], .agg #[.int .i64 p0, .int .i64 0, .slice none 0 0, .slice none 0 0, .int .i64 0, .bool false]] hr ⟨rfl, rfl⟩ (by kernel_rfl) ?_; clear hr a; intro a hr
    refine op_new (wn rfl) rfl rfl hr h (vf := fun b => .pointer (some ⟨b, 0, none⟩)) (cs := #[.int .i64 p0, .int .i64 0, .slice none 0 0, .slice none 0 0, .int .i64 0, .bool false]) (T := 103) (by kernel_rfl) ?_; clear h hr a; intro b4 w a h hr
    refine ovs [2, 3] [.pointer (some ⟨b4, 0, none⟩), .int .i64 0] hr ⟨rfl, rfl⟩ (by kernel_rfl) ?_; clear hr a; intro a hr
    refine wpList_nil ?_
    refine then_normal ?_
    refine wp_ret ?_
    refine end_ret2 (v := .pointer (some ⟨b4, 0, none⟩)) (v' := .int .i64 0) rfl hr (by kernel_rfl) (by kernel_rfl) ?_
    replace h : Fit z (sepL (rowOf 2 1 encZ_i64 (.slice none 0 0) ([] : List Int) :: pts b4 (.cells #[.int .i64 p0, .int .i64 0, .slice none 0 0, .slice none 0 0, .int .i64 0, .bool false] 103) :: L)) _ := h.row_nil
    replace h : Fit z (sepL (rowOf 96 6 enc_T_api_Access (.slice none 0 0) ([] : List T_api_Access) :: rowOf 2 1 encZ_i64 (.slice none 0 0) ([] : List Int) :: pts b4 (.cells #[.int .i64 p0, .int .i64 0, .slice none 0 0, .slice none 0 0, .int .i64 0, .bool false] 103) :: L)) _ := h.row_nil
    replace h : Fit z (sepL (pts b4 (.cells #[.int .i64 p0, .int .i64 0, .slice none 0 0, .slice none 0 0, .int .i64 0, .bool false] 103) :: rowOf 2 1 encZ_i64 (.slice none 0 0) ([] : List Int) :: rowOf 96 6 enc_T_api_Access (.slice none 0 0) ([] : List T_api_Access) :: L)) _ := h.sel 3 [2, 1, 0] (by kernel_rfl) (by kernel_rfl)
    cases H
    exact ⟨b4, none, 0, none, 0, rfl, h⟩
  ·
    replace H := ifF c3 H
    refine cond_tt hr (b := (!r1)) (by rw [show r1 = false from (bF c3)]; rfl) ?_
    refine wp_seq ?_
    refine wp_region_lit ?_
    refine ovs [2, 3] [.pointer none, .int .i64 3] hr ⟨rfl, rfl⟩ (by kernel_rfl) ?_; clear hr a; intro a hr
    refine wpList_nil ?_
    refine then_normal ?_
    refine wp_ret ?_
    refine then_ret ?_
    refine end_ret2 (v := .pointer none) (v' := .int .i64 3) rfl hr (by kernel_rfl) (by kernel_rfl) ?_
    cases H

set_option maxRecDepth 100000 in
set_option maxHeartbeats 4000000 in
theorem cells_New_ok1 {z w : World} {L : List HProp} {p0 : Int} {r1 : Int} (H : cells_New p0 = some (none, r1)) (h : Fit z (sepL (L)) w)  :
    Calls Try.prog 14 #[.int .i64 p0] w fun e w => e = .returned (.tuple #[.pointer none, .int .i64 r1]) ∧ Fit z (sepL (L)) w := by
  unfold cells_New at H
  refine enter Try.func14 rfl 11 rfl rfl [(0, .int .i64 p0)] ⟨rfl, trivial⟩ ?_
  intro j a hr
  refine wp_seq ?_
  refine wp_region_lit ?_
  refine ovs [2, 3] [.pointer none, .int .i64 0] hr ⟨rfl, rfl⟩ (by kernel_rfl) ?_; clear hr a; intro a hr
  refine wpList_nil ?_
  refine then_normal ?_
  refine wp_seq ?_
  refine wp_seq ?_
  refine wp_region_lit ?_
  replace H := bd1 H; obtain ⟨r1, e2, H⟩ := H
  refine ov hr (.int .i64 p0) (by kernel_rfl) ?_; clear hr a; intro a hr
  have hc := cells_good_ok (H := e2) (h := h)
  refine op_call (wn rfl) rfl rfl hr (f := 53) (args := #[.int .i64 p0]) (by kernel_rfl) hc ?_; clear hc h
  rintro _ w ⟨rfl, h⟩; refine ⟨_, rfl, ?_⟩
  clear hr a; intro a hr
  refine ov hr (.bool (!r1)) (by kernel_rfl) ?_; clear hr a; intro a hr
  refine wpList_nil ?_
  refine then_normal ?_
  by_cases c3 : r1 = true
  ·
    replace H := ifT c3 H
    refine cond_ff hr (b := (!r1)) (by rw [show r1 = true from (c3)]; rfl) ?_
    refine wp_skip ?_
    refine then_normal ?_
    refine wp_seq ?_
    refine wp_region_lit ?_
    refine ovs [7, 8, 9] [.int .i64 p0, .agg #[.int .i64 p0, .int .i64 0], .agg #[.int .i64 p0, .int .i64 0, .slice none 0 0, .slice none 0 0, .int .i64 0, .bool false]] hr ⟨rfl, rfl⟩ (by kernel_rfl) ?_; clear hr a; intro a hr
    refine op_new (wn rfl) rfl rfl hr h (vf := fun b => .pointer (some ⟨b, 0, none⟩)) (cs := #[.int .i64 p0, .int .i64 0, .slice none 0 0, .slice none 0 0, .int .i64 0, .bool false]) (T := 103) (by kernel_rfl) ?_; clear h hr a; intro b4 w a h hr
    refine ovs [2, 3] [.pointer (some ⟨b4, 0, none⟩), .int .i64 0] hr ⟨rfl, rfl⟩ (by kernel_rfl) ?_; clear hr a; intro a hr
    refine wpList_nil ?_
    refine then_normal ?_
    refine wp_ret ?_
    refine end_ret2 (v := .pointer (some ⟨b4, 0, none⟩)) (v' := .int .i64 0) rfl hr (by kernel_rfl) (by kernel_rfl) ?_
    replace h : Fit z (sepL (rowOf 2 1 encZ_i64 (.slice none 0 0) ([] : List Int) :: pts b4 (.cells #[.int .i64 p0, .int .i64 0, .slice none 0 0, .slice none 0 0, .int .i64 0, .bool false] 103) :: L)) _ := h.row_nil
    replace h : Fit z (sepL (rowOf 96 6 enc_T_api_Access (.slice none 0 0) ([] : List T_api_Access) :: rowOf 2 1 encZ_i64 (.slice none 0 0) ([] : List Int) :: pts b4 (.cells #[.int .i64 p0, .int .i64 0, .slice none 0 0, .slice none 0 0, .int .i64 0, .bool false] 103) :: L)) _ := h.row_nil
    cases H
  ·
    replace H := ifF c3 H
    refine cond_tt hr (b := (!r1)) (by rw [show r1 = false from (bF c3)]; rfl) ?_
    refine wp_seq ?_
    refine wp_region_lit ?_
    refine ovs [2, 3] [.pointer none, .int .i64 3] hr ⟨rfl, rfl⟩ (by kernel_rfl) ?_; clear hr a; intro a hr
    refine wpList_nil ?_
    refine then_normal ?_
    refine wp_ret ?_
    refine then_ret ?_
    refine end_ret2 (v := .pointer none) (v' := .int .i64 3) rfl hr (by kernel_rfl) (by kernel_rfl) ?_
    cases H
    exact ⟨rfl, h⟩

/-- plunder/plunderref2.refused -/
def plunderref2_refused (p0 : Int) : Option (T_api_Effect) :=
  some (⟨0, false, p0⟩ : T_api_Effect)
set_option maxRecDepth 100000 in
set_option maxHeartbeats 4000000 in
theorem plunderref2_refused_ok {z w : World} {L : List HProp} {p0 : Int} {r0 : T_api_Effect} (H : plunderref2_refused p0 = some r0) (h : Fit z (sepL (L)) w)  :
    Calls Try.prog 58 #[.int .i64 p0] w fun e w => e = .returned (.agg #[.int .i64 r0.V, .bool r0.OK, .int .i64 r0.Err]) ∧ Fit z (sepL (L)) w := by
  unfold plunderref2_refused at H
  refine enter Try.func58 rfl 5 rfl rfl [(0, .int .i64 p0)] ⟨rfl, trivial⟩ ?_
  intro j a hr
  refine wp_seq ?_
  refine wp_region_lit ?_
  refine op_new (wn rfl) rfl rfl hr h (vf := fun b => .pointer (some ⟨b, 0, none⟩)) (cs := #[.int .i64 0, .bool false, .int .i64 0]) (T := 66) (by kernel_rfl) ?_; clear h hr a; intro b1 w a h hr
  refine wpList_nil ?_
  refine then_normal ?_
  refine wp_seq ?_
  refine wp_region_lit ?_
  refine ovs [3, 4] [.int .i64 p0, .agg #[.int .i64 0, .bool false, .int .i64 p0]] hr ⟨rfl, rfl⟩ (by kernel_rfl) ?_; clear hr a; intro a hr
  refine op_stores (wn rfl) rfl hr rfl (by kernel_rfl) (by kernel_rfl) (vs := [.int .i64 0, .bool false, .int .i64 p0]) rfl rfl (by kernel_rfl) h (i := 0) (cs' := #[.int .i64 0, .bool false, .int .i64 p0]) rfl ?_; clear h; intro w h
  refine wpList_nil ?_
  replace h : Fit z (sepL (pts b1 (.cells #[.int .i64 0, .bool false, .int .i64 p0] 66) :: L)) _ := h
  refine then_normal ?_
  refine wp_ret ?_
  refine end_retC (cs := [.int .i64 0, .bool false, .int .i64 p0]) rfl hr (by kernel_rfl) (by kernel_rfl) (by kernel_rfl) ⟨h.cell 0 rfl, h.cell 1 rfl, h.cell 2 rfl, trivial⟩ ?_
  replace h : Fit z (sepL (L)) _ := h.sel 1 [] (by kernel_rfl) (by kernel_rfl)
  replace H := ej1 H; subst H
  exact ⟨rfl, h⟩

/-- (*plunder/plunderref2.Arena).note -/
def plunderref2_Arena_note (p0 : T_plunderref2_Arena) (p1 : T_api_Access) : Option (T_plunderref2_Arena) :=
  (if p0.On = true then if (p0.Book.length + 1) * 48 ≤ 140737488355328 then some ({ p0 with Book := p0.Book ++ [p1] }) else none else some p0)
set_option maxRecDepth 100000 in
set_option maxHeartbeats 4000000 in
theorem plunderref2_Arena_note_ok {z w : World} {L : List HProp} {p0 : T_plunderref2_Arena} {p1 : T_api_Access} {B0 : Nat} {ca1 : Option Addr} {cc2 : Nat} {ca3 : Option Addr} {cc4 : Nat} {q0 : T_plunderref2_Arena} (H : plunderref2_Arena_note p0 p1 = some q0) (h : Fit z (sepL (ob34 B0 p0 ca1 cc2 ca3 cc4 :: ro2 ca1 cc2 p0.Held :: ro96 ca3 cc4 p0.Book :: L)) w)  :
    Calls Try.prog 60 #[.pointer (some ⟨B0, 0, none⟩), .agg #[.int .i64 p1.Who, .int .i64 p1.Kind, .int .i64 p1.Addr, .int .i64 p1.A, .int .i64 p1.B, .bool p1.OK]] w fun e w => ∃ caq0_1 : Option Addr, ∃ ccq0_2 : Nat, ∃ caq0_3 : Option Addr, ∃ ccq0_4 : Nat, e = .returned (.tuple #[]) ∧ Fit z (sepL (ob34 B0 q0 caq0_1 ccq0_2 caq0_3 ccq0_4 :: ro2 caq0_1 ccq0_2 q0.Held :: ro96 caq0_3 ccq0_4 q0.Book :: L)) w := by
  unfold plunderref2_Arena_note at H
  refine enter Try.func60 rfl 18 rfl rfl [(0, .pointer (some ⟨B0, 0, none⟩)), (1, .agg #[.int .i64 p1.Who, .int .i64 p1.Kind, .int .i64 p1.Addr, .int .i64 p1.A, .int .i64 p1.B, .bool p1.OK])] ⟨rfl, rfl, trivial⟩ ?_
  intro j a hr
  refine wp_seq ?_
  refine wp_region_lit ?_
  refine op_new (wn rfl) rfl rfl hr h (vf := fun b => .pointer (some ⟨b, 0, none⟩)) (cs := #[.int .i64 p1.Who, .int .i64 p1.Kind, .int .i64 p1.Addr, .int .i64 p1.A, .int .i64 p1.B, .bool p1.OK]) (T := 96) (by kernel_rfl) ?_; clear h hr a; intro b5 w a h hr
  refine wpList_nil ?_
  refine then_normal ?_
  refine wp_seq ?_
  refine wp_region_lit ?_
  refine ovs [4, 5, 6] [.pointer (some ⟨B0, 0, none⟩), .pointer (some ⟨B0, 0, none⟩), .pointer (some ⟨B0, 2, none⟩)] hr ⟨rfl, rfl⟩ (by kernel_rfl) ?_; clear hr a; intro a hr
  refine op_val (wn rfl) rfl rfl hr (v := .bool p0.On) (rl rfl (by kernel_rfl) (by kernel_rfl) ((h.pick 1).cell 2 rfl)) ?_; clear hr a; intro a hr
  refine wpList_nil ?_
  refine then_normal ?_
  by_cases c6 : p0.On = true
  ·
    replace H := ifT c6 H
    refine cond_tt hr (b := p0.On) (c6) ?_
    replace H := gd H; obtain ⟨c10, H⟩ := H
    refine reg_E (fun w => heldC w B0 4 [.slice ca3 p0.Book.length cc4] ∧ heldC w b5 0 [.int .i64 p1.Who, .int .i64 p1.Kind, .int .i64 p1.Addr, .int .i64 p1.A, .int .i64 p1.B, .bool p1.OK] ∧ True) [2, 3] h (by kernel_rfl) ?_; intro w h
    change wpAnyE _ _ _ _ _ _ 11 (Array.replicate 11 false) a w
    have hgo : ∀ w w', CellsGo w w' → (heldC w B0 4 [.slice ca3 p0.Book.length cc4] ∧ heldC w b5 0 [.int .i64 p1.Who, .int .i64 p1.Kind, .int .i64 p1.Addr, .int .i64 p1.A, .int .i64 p1.B, .bool p1.OK] ∧ True) → heldC w' B0 4 [.slice ca3 p0.Book.length cc4] ∧ heldC w' b5 0 [.int .i64 p1.Who, .int .i64 p1.Kind, .int .i64 p1.Addr, .int .i64 p1.A, .int .i64 p1.B, .bool p1.OK] ∧ True := fun w w' g hD => ⟨heldC_go _ _ _ _ _ g hD.1, heldC_go _ _ _ _ _ g hD.2.1, trivial⟩
    refine ev 10 0 rfl (by kernel_rfl) (wn rfl) hr (.pointer (some ⟨B0, 0, none⟩)) (fun w => by kernel_rfl) ?_; clear hr a; intro a hr
    refine ev 9 1 rfl (by kernel_rfl) (wn rfl) hr (.pointer (some ⟨B0, 0, none⟩)) (fun w => by kernel_rfl) ?_; clear hr a; intro a hr
    refine evD hgo ⟨⟨(h.pick 1).cell 4 rfl, trivial⟩, ⟨h.cell 0 rfl, h.cell 1 rfl, h.cell 2 rfl, h.cell 3 rfl, h.cell 4 rfl, h.cell 5 rfl, trivial⟩, trivial⟩ 8 2 rfl (by kernel_rfl) (wn rfl) hr (.pointer (some ⟨B0, 0, none⟩)) (fun w => by kernel_rfl) ?_; clear hr a; intro a hr
    refine evD hgo ⟨⟨(h.pick 1).cell 4 rfl, trivial⟩, ⟨h.cell 0 rfl, h.cell 1 rfl, h.cell 2 rfl, h.cell 3 rfl, h.cell 4 rfl, h.cell 5 rfl, trivial⟩, trivial⟩ 7 3 rfl (by kernel_rfl) (wn rfl) hr (.pointer (some ⟨B0, 4, none⟩)) (fun w => by kernel_rfl) ?_; clear hr a; intro a hr
    refine el [2, 3] (b := B0) (off := 4) (cs := [.slice ca3 p0.Book.length cc4]) (fun _ hk => ⟨hk, fun w hD => hD.1⟩) 6 4 rfl (by kernel_rfl) (wn rfl) hr (.slice ca3 p0.Book.length cc4) ⟨(h.pick 1).cell 4 rfl, trivial⟩ (fun w hc => rl rfl (by kernel_rfl) (by kernel_rfl) hc.1) ?_; clear hr a; intro a hr
    refine el [2, 3] (b := b5) (off := 0) (cs := [.int .i64 p1.Who, .int .i64 p1.Kind, .int .i64 p1.Addr, .int .i64 p1.A, .int .i64 p1.B, .bool p1.OK]) (fun _ hk => ⟨hk, fun w hD => hD.2.1⟩) 5 5 rfl (by kernel_rfl) (wn rfl) hr (.agg #[.int .i64 p1.Who, .int .i64 p1.Kind, .int .i64 p1.Addr, .int .i64 p1.A, .int .i64 p1.B, .bool p1.OK]) ⟨h.cell 0 rfl, h.cell 1 rfl, h.cell 2 rfl, h.cell 3 rfl, h.cell 4 rfl, h.cell 5 rfl, trivial⟩ (fun w hc => rlm (cs := [.int .i64 p1.Who, .int .i64 p1.Kind, .int .i64 p1.Addr, .int .i64 p1.A, .int .i64 p1.B, .bool p1.OK]) rfl (by kernel_rfl) (by kernel_rfl) (by kernel_rfl) hc) ?_; clear hr a; intro a hr
    refine e_one (fuel := 4) (i := 6) (by kernel_rfl) rfl ?_
    refine op_new (wn rfl) rfl rfl hr h (vf := fun b => .slice (some ⟨b, 0, none⟩) 1 1) (cs := #[.int .i64 p1.Who, .int .i64 p1.Kind, .int .i64 p1.Addr, .int .i64 p1.A, .int .i64 p1.B, .bool p1.OK]) (T := 96) (by kernel_rfl) ?_; clear h hr a; intro b7 w a h hr
    refine wpList_nil ?_; refine then_normal ?_
    refine ⟨fun hE => absurd hE (by decide), ?_⟩
    refine e_one (fuel := 3) (i := 7) (by kernel_rfl) rfl ?_
    replace h : Fit z (sepL (ro96 ca3 cc4 p0.Book :: ob96 b7 p1 :: ob96 b5 p1 :: ob34 B0 p0 ca1 cc2 ca3 cc4 :: ro2 ca1 cc2 p0.Held :: L)) _ := h.sel 5 [4, 0, 1, 2, 3] (by kernel_rfl) (by kernel_rfl)
    refine op_append (n0 := p0.Book.length) (c := 1) (bytes := 48) (wn rfl) rfl rfl hr rfl (by kernel_rfl) (by kernel_rfl) enc_T_api_Access_ok (E := 96) (xs := p0.Book) (by kernel_rfl) (by kernel_rfl) h (news := [p1]) (m := 1) rfl ((h.pick 1).news rfl) c10 rfl ?_; clear h hr a; intro ca8 cc9 w a h hr
    refine wpList_nil ?_; refine then_normal ?_
    replace h : Fit z (sepL (ro96 ca8 cc9 (p0.Book ++ [p1]) :: ob96 b7 p1 :: ob96 b5 p1 :: ob34 B0 p0 ca1 cc2 ca3 cc4 :: ro2 ca1 cc2 p0.Held :: L)) _ := h
    refine ⟨fun hE => absurd hE (by decide), ?_⟩
    refine ev 2 8 rfl (by kernel_rfl) (wn rfl) hr (.pointer (some ⟨B0, 0, none⟩)) (fun w => by kernel_rfl) ?_; clear hr a; intro a hr
    refine ev 1 9 rfl (by kernel_rfl) (wn rfl) hr (.pointer (some ⟨B0, 4, none⟩)) (fun w => by kernel_rfl) ?_; clear hr a; intro a hr
    refine e_one (fuel := 0) (i := 10) (by kernel_rfl) rfl ?_
    replace h : Fit z (sepL (ob34 B0 p0 ca1 cc2 ca3 cc4 :: ro96 ca8 cc9 (p0.Book ++ [p1]) :: ob96 b7 p1 :: ob96 b5 p1 :: ro2 ca1 cc2 p0.Held :: L)) _ := h.sel 5 [3, 0, 1, 2, 4] (by kernel_rfl) (by kernel_rfl)
    refine op_store (wn rfl) rfl hr rfl (by kernel_rfl) (by kernel_rfl) (v := .slice ca8 ((p0.Book ++ [p1]).length) cc9) rfl rfl (by kernel_rfl) h (i := 4) rfl ?_; clear h; intro w h
    refine wpList_nil ?_; refine then_normal ?_
    replace h : Fit z (sepL (pts B0 (.cells #[.int .i64 p0.Most, .slice ca1 p0.Held.length cc2, .bool p0.On, .int .i64 p0.Actor, .slice ca8 ((p0.Book ++ [p1]).length) cc9] 34) :: ro96 ca8 cc9 (p0.Book ++ [p1]) :: ob96 b7 p1 :: ob96 b5 p1 :: ro2 ca1 cc2 p0.Held :: L)) _ := h
    refine ⟨fun hE => absurd hE (by decide), ?_⟩
    refine e_end (by kernel_rfl) ?_
    refine end_norm0 rfl hr ?_
    replace h : Fit z (sepL (pts B0 (.cells #[.int .i64 p0.Most, .slice ca1 p0.Held.length cc2, .bool p0.On, .int .i64 p0.Actor, .slice ca8 ((p0.Book ++ [p1]).length) cc9] 34) :: ro2 ca1 cc2 p0.Held :: ro96 ca8 cc9 (p0.Book ++ [p1]) :: L)) _ := h.sel 5 [0, 4, 1] (by kernel_rfl) (by kernel_rfl)
    replace H := ej1 H; subst H
    exact ⟨ca1, cc2, ca8, cc9, rfl, h⟩
  ·
    replace H := ifF c6 H
    refine cond_ff hr (b := p0.On) (bF c6) ?_
    refine wp_skip ?_
    refine end_norm0 rfl hr ?_
    replace h : Fit z (sepL (ob34 B0 p0 ca1 cc2 ca3 cc4 :: ro2 ca1 cc2 p0.Held :: ro96 ca3 cc4 p0.Book :: L)) _ := h.sel 4 [1, 2, 3] (by kernel_rfl) (by kernel_rfl)
    replace H := ej1 H; subst H
    exact ⟨ca1, cc2, ca3, cc4, rfl, h⟩

def plunderref2_Arena_reserve_l1 (K : Nat) (p1 : Int) : Nat → (List Int) → Int → Option ((List Int))
  | 0, _, _ => none
  | k1 + 1, l19, g20 => (if g20 < p1 then if (l19.length + 1) * 8 ≤ 140737488355328 then (plunderref2_Arena_reserve_l1 K p1 k1 (l19 ++ [0]) (wi (g20 + (1 : Int)))) else none else some l19)
/-- (*plunder/plunderref2.Arena).reserve -/
def plunderref2_Arena_reserve (K : Nat) (p0 : T_plunderref2_Arena) (p1 : Int) : Option (T_api_Effect × T_plunderref2_Arena) :=
  (if p1 < (1 : Int) then ob1 (plunderref2_refused 21) (fun r7 => some (r7, p0)) else (if p1 > (wi (p0.Most - ((p0.Held.length : Nat) : Int))) then ob1 (plunderref2_refused 22) (fun r10 => some (r10, p0)) else ob1 ((plunderref2_Arena_reserve_l1 K p1 K p0.Held 0)) (fun l14 => ob1 (plunderref2_Arena_note ({ p0 with Held := l14 }) (⟨p0.Actor, 4, ((p0.Held.length : Nat) : Int), p1, 0, true⟩ : T_api_Access)) (fun S26 => some ((⟨((p0.Held.length : Nat) : Int), true, 0⟩ : T_api_Effect), S26)))))
set_option maxRecDepth 100000 in
set_option maxHeartbeats 4000000 in
theorem plunderref2_Arena_reserve_ok {z w : World} {L : List HProp} {K : Nat} {p0 : T_plunderref2_Arena} {p1 : Int} {B0 : Nat} {ca1 : Option Addr} {cc2 : Nat} {ca3 : Option Addr} {cc4 : Nat} {r0 : T_api_Effect} {q0 : T_plunderref2_Arena} (H : plunderref2_Arena_reserve K p0 p1 = some (r0, q0)) (h : Fit z (sepL (ob34 B0 p0 ca1 cc2 ca3 cc4 :: ro2 ca1 cc2 p0.Held :: ro96 ca3 cc4 p0.Book :: L)) w)  :
    Calls Try.prog 59 #[.pointer (some ⟨B0, 0, none⟩), .int .i64 p1] w fun e w => ∃ caq0_1 : Option Addr, ∃ ccq0_2 : Nat, ∃ caq0_3 : Option Addr, ∃ ccq0_4 : Nat, e = .returned (.agg #[.int .i64 r0.V, .bool r0.OK, .int .i64 r0.Err]) ∧ Fit z (sepL (ob34 B0 q0 caq0_1 ccq0_2 caq0_3 ccq0_4 :: ro2 caq0_1 ccq0_2 q0.Held :: ro96 caq0_3 ccq0_4 q0.Book :: L)) w := by
  unfold plunderref2_Arena_reserve at H
  refine enter Try.func59 rfl 53 rfl rfl [(0, .pointer (some ⟨B0, 0, none⟩)), (1, .int .i64 p1)] ⟨rfl, rfl, trivial⟩ ?_
  intro j a hr
  refine wp_seq ?_
  refine wp_region_lit ?_
  refine op_new (wn rfl) rfl rfl hr h (vf := fun b => .pointer (some ⟨b, 0, none⟩)) (cs := #[.int .i64 0, .bool false, .int .i64 0]) (T := 66) (by kernel_rfl) ?_; clear h hr a; intro b5 w a h hr
  refine wpList_nil ?_
  refine then_normal ?_
  refine wp_seq ?_
  refine wp_seq ?_
  refine wp_region_lit ?_
  refine ovs [7, 8] [.int .i64 p1, .bool (decide (p1 < (1 : Int)))] hr ⟨rfl, rfl⟩ (by kernel_rfl) ?_; clear hr a; intro a hr
  refine wpList_nil ?_
  refine then_normal ?_
  by_cases c6 : p1 < (1 : Int)
  ·
    replace H := ifT c6 H
    refine cond_tt hr (b := (decide (p1 < (1 : Int)))) (decide_eq_true c6) ?_
    refine wp_seq ?_
    refine wp_region_lit ?_
    replace H := bd1 H; obtain ⟨r7, e8, H⟩ := H
    have hc := plunderref2_refused_ok (H := e8) (h := h)
    refine op_call (wn rfl) rfl rfl hr (f := 58) (args := #[.int .i64 21]) (by kernel_rfl) hc ?_; clear hc h
    rintro _ w ⟨rfl, h⟩; refine ⟨_, rfl, ?_⟩
    clear hr a; intro a hr
    refine op_stores (wn rfl) rfl hr rfl (by kernel_rfl) (by kernel_rfl) (vs := [.int .i64 r7.V, .bool r7.OK, .int .i64 r7.Err]) rfl rfl (by kernel_rfl) h (i := 0) (cs' := #[.int .i64 r7.V, .bool r7.OK, .int .i64 r7.Err]) rfl ?_; clear h; intro w h
    refine wpList_nil ?_
    replace h : Fit z (sepL (ob66 b5 r7 :: ob34 B0 p0 ca1 cc2 ca3 cc4 :: ro2 ca1 cc2 p0.Held :: ro96 ca3 cc4 p0.Book :: L)) _ := h
    refine then_normal ?_
    refine wp_ret ?_
    refine then_ret ?_
    refine end_retC (cs := [.int .i64 r7.V, .bool r7.OK, .int .i64 r7.Err]) rfl hr (by kernel_rfl) (by kernel_rfl) (by kernel_rfl) ⟨h.cell 0 rfl, h.cell 1 rfl, h.cell 2 rfl, trivial⟩ ?_
    replace h : Fit z (sepL (ob34 B0 p0 ca1 cc2 ca3 cc4 :: ro2 ca1 cc2 p0.Held :: ro96 ca3 cc4 p0.Book :: L)) _ := h.sel 4 [1, 2, 3] (by kernel_rfl) (by kernel_rfl)
    replace H := ej2 H; obtain ⟨rfl, rfl⟩ := H
    exact ⟨ca1, cc2, ca3, cc4, rfl, h⟩
  ·
    replace H := ifF c6 H
    refine cond_ff hr (b := (decide (p1 < (1 : Int)))) (decide_eq_false c6) ?_
    refine wp_skip ?_
    refine then_normal ?_
    refine wp_seq ?_
    refine wp_seq ?_
    refine reg_E (fun w => heldC w B0 0 [.int .i64 p0.Most] ∧ heldC w B0 1 [.slice ca1 p0.Held.length cc2] ∧ True) [2, 3, 6, 7, 9] h (by kernel_rfl) ?_; intro w h
    change wpAnyE _ _ _ _ _ _ 12 (Array.replicate 12 false) a w
    have hgo : ∀ w w', CellsGo w w' → (heldC w B0 0 [.int .i64 p0.Most] ∧ heldC w B0 1 [.slice ca1 p0.Held.length cc2] ∧ True) → heldC w' B0 0 [.int .i64 p0.Most] ∧ heldC w' B0 1 [.slice ca1 p0.Held.length cc2] ∧ True := fun w w' g hD => ⟨heldC_go _ _ _ _ _ g hD.1, heldC_go _ _ _ _ _ g hD.2.1, trivial⟩
    refine ev 11 0 rfl (by kernel_rfl) (wn rfl) hr (.int .i64 p1) (fun w => by kernel_rfl) ?_; clear hr a; intro a hr
    refine ev 10 1 rfl (by kernel_rfl) (wn rfl) hr (.pointer (some ⟨B0, 0, none⟩)) (fun w => by kernel_rfl) ?_; clear hr a; intro a hr
    refine evD hgo ⟨⟨(h.pick 1).cell 0 rfl, trivial⟩, ⟨(h.pick 1).cell 1 rfl, trivial⟩, trivial⟩ 9 2 rfl (by kernel_rfl) (wn rfl) hr (.pointer (some ⟨B0, 0, none⟩)) (fun w => by kernel_rfl) ?_; clear hr a; intro a hr
    refine evD hgo ⟨⟨(h.pick 1).cell 0 rfl, trivial⟩, ⟨(h.pick 1).cell 1 rfl, trivial⟩, trivial⟩ 8 3 rfl (by kernel_rfl) (wn rfl) hr (.pointer (some ⟨B0, 0, none⟩)) (fun w => by kernel_rfl) ?_; clear hr a; intro a hr
    refine ev 7 5 rfl (by kernel_rfl) (wn rfl) hr (.pointer (some ⟨B0, 0, none⟩)) (fun w => by kernel_rfl) ?_; clear hr a; intro a hr
    refine evD hgo ⟨⟨(h.pick 1).cell 0 rfl, trivial⟩, ⟨(h.pick 1).cell 1 rfl, trivial⟩, trivial⟩ 6 6 rfl (by kernel_rfl) (wn rfl) hr (.pointer (some ⟨B0, 0, none⟩)) (fun w => by kernel_rfl) ?_; clear hr a; intro a hr
    refine evD hgo ⟨⟨(h.pick 1).cell 0 rfl, trivial⟩, ⟨(h.pick 1).cell 1 rfl, trivial⟩, trivial⟩ 5 7 rfl (by kernel_rfl) (wn rfl) hr (.pointer (some ⟨B0, 1, none⟩)) (fun w => by kernel_rfl) ?_; clear hr a; intro a hr
    refine el [2, 3, 6, 7, 9] (b := B0) (off := 0) (cs := [.int .i64 p0.Most]) (fun _ hk => ⟨hk, fun w hD => hD.1⟩) 4 4 rfl (by kernel_rfl) (wn rfl) hr (.int .i64 p0.Most) ⟨(h.pick 1).cell 0 rfl, trivial⟩ (fun w hc => rl rfl (by kernel_rfl) (by kernel_rfl) hc.1) ?_; clear hr a; intro a hr
    refine el [2, 3, 6, 7, 9] (b := B0) (off := 1) (cs := [.slice ca1 p0.Held.length cc2]) (fun _ hk => ⟨hk, fun w hD => hD.2.1⟩) 3 8 rfl (by kernel_rfl) (wn rfl) hr (.slice ca1 p0.Held.length cc2) ⟨(h.pick 1).cell 1 rfl, trivial⟩ (fun w hc => rl rfl (by kernel_rfl) (by kernel_rfl) hc.1) ?_; clear hr a; intro a hr
    refine evD hgo ⟨⟨(h.pick 1).cell 0 rfl, trivial⟩, ⟨(h.pick 1).cell 1 rfl, trivial⟩, trivial⟩ 2 9 rfl (by kernel_rfl) (wn rfl) hr (.int .i64 ((p0.Held.length : Nat) : Int)) (fun w => by kernel_rfl) ?_; clear hr a; intro a hr
    refine ev 1 10 rfl (by kernel_rfl) (wn rfl) hr (.int .i64 (wi (p0.Most - ((p0.Held.length : Nat) : Int)))) (fun w => by kernel_rfl) ?_; clear hr a; intro a hr
    refine ev 0 11 rfl (by kernel_rfl) (wn rfl) hr (.bool (decide (p1 > (wi (p0.Most - ((p0.Held.length : Nat) : Int)))))) (fun w => by kernel_rfl) ?_; clear hr a; intro a hr
    refine e_end (by kernel_rfl) ?_
    refine then_normal ?_
    by_cases c9 : p1 > (wi (p0.Most - ((p0.Held.length : Nat) : Int)))
    ·
      replace H := ifT c9 H
      refine cond_tt hr (b := (decide (p1 > (wi (p0.Most - ((p0.Held.length : Nat) : Int)))))) (decide_eq_true c9) ?_
      refine wp_seq ?_
      refine wp_region_lit ?_
      replace H := bd1 H; obtain ⟨r10, e11, H⟩ := H
      have hc := plunderref2_refused_ok (H := e11) (h := h)
      refine op_call (wn rfl) rfl rfl hr (f := 58) (args := #[.int .i64 22]) (by kernel_rfl) hc ?_; clear hc h
      rintro _ w ⟨rfl, h⟩; refine ⟨_, rfl, ?_⟩
      clear hr a; intro a hr
      refine op_stores (wn rfl) rfl hr rfl (by kernel_rfl) (by kernel_rfl) (vs := [.int .i64 r10.V, .bool r10.OK, .int .i64 r10.Err]) rfl rfl (by kernel_rfl) h (i := 0) (cs' := #[.int .i64 r10.V, .bool r10.OK, .int .i64 r10.Err]) rfl ?_; clear h; intro w h
      refine wpList_nil ?_
      replace h : Fit z (sepL (ob66 b5 r10 :: ob34 B0 p0 ca1 cc2 ca3 cc4 :: ro2 ca1 cc2 p0.Held :: ro96 ca3 cc4 p0.Book :: L)) _ := h
      refine then_normal ?_
      refine wp_ret ?_
      refine then_ret ?_
      refine end_retC (cs := [.int .i64 r10.V, .bool r10.OK, .int .i64 r10.Err]) rfl hr (by kernel_rfl) (by kernel_rfl) (by kernel_rfl) ⟨h.cell 0 rfl, h.cell 1 rfl, h.cell 2 rfl, trivial⟩ ?_
      replace h : Fit z (sepL (ob34 B0 p0 ca1 cc2 ca3 cc4 :: ro2 ca1 cc2 p0.Held :: ro96 ca3 cc4 p0.Book :: L)) _ := h.sel 4 [1, 2, 3] (by kernel_rfl) (by kernel_rfl)
      replace H := ej2 H; obtain ⟨rfl, rfl⟩ := H
      exact ⟨ca1, cc2, ca3, cc4, rfl, h⟩
    ·
      replace H := ifF c9 H
      refine cond_ff hr (b := (decide (p1 > (wi (p0.Most - ((p0.Held.length : Nat) : Int)))))) (decide_eq_false c9) ?_
      refine wp_skip ?_
      refine then_normal ?_
      refine wp_seq ?_
      refine wp_region_lit ?_
      refine ovs [23, 24, 25] [.pointer (some ⟨B0, 0, none⟩), .pointer (some ⟨B0, 0, none⟩), .pointer (some ⟨B0, 1, none⟩)] hr ⟨rfl, rfl⟩ (by kernel_rfl) ?_; clear hr a; intro a hr
      refine op_val (wn rfl) rfl rfl hr (v := .slice ca1 p0.Held.length cc2) (rl rfl (by kernel_rfl) (by kernel_rfl) ((h.pick 1).cell 1 rfl)) ?_; clear hr a; intro a hr
      refine ovs [27, 5] [.int .i64 ((p0.Held.length : Nat) : Int), .int .i64 ((p0.Held.length : Nat) : Int)] hr ⟨rfl, rfl⟩ (by kernel_rfl) ?_; clear hr a; intro a hr
      refine wpList_nil ?_
      refine then_normal ?_
      replace H := kd1 H; obtain ⟨o16, H, hK15⟩ := H
      refine cut_rule (β := Unit) (fun _ a w => ∃ ca12 : Option Addr, ∃ cc13 : Nat, ∃ l14 : List Int, l14 = o16 ∧ ∃ j, Rep 53 (lk [(0, .pointer (some ⟨B0, 0, none⟩)), (1, .int .i64 p1), (4, .pointer (some ⟨b5, 0, none⟩)), (5, .int .i64 ((p0.Held.length : Nat) : Int))] j) a ∧ Fit z (sepL (pts B0 (.cells #[.int .i64 p0.Most, .slice ca12 l14.length cc13, .bool p0.On, .int .i64 p0.Actor, .slice ca3 p0.Book.length cc4] 34) :: ro2 ca12 cc13 l14 :: ro96 ca3 cc4 p0.Book :: pts b5 (.cells #[.int .i64 0, .bool false, .int .i64 0] 66) :: L)) w) ?_ ?_
      ·
        refine wp_seq ?_
        refine wp_region_lit ?_
        refine ov hr (.int .i64 0) (by kernel_rfl) ?_; clear hr a; intro a hr
        refine wpList_nil ?_
        refine then_normal ?_
        refine wp_block ?_
        replace hr := hr.fold2 [(0, .pointer (some ⟨B0, 0, none⟩)), (1, .int .i64 p1), (4, .pointer (some ⟨b5, 0, none⟩)), (5, .int .i64 ((p0.Held.length : Nat) : Int)), (6, .int .i64 0)] (by kernel_rfl); obtain ⟨j, hr⟩ := hr
        replace h : Fit z (sepL (ob34 B0 p0 ca1 cc2 ca3 cc4 :: ro2 ca1 cc2 p0.Held :: ro96 ca3 cc4 p0.Book :: pts b5 (.cells #[.int .i64 0, .bool false, .int .i64 0] 66) :: L)) _ := h.sel 4 [1, 2, 3, 0] (by kernel_rfl) (by kernel_rfl)
        refine loop_rule (β := Nat) id (fun m a w => ∃ ca17 : Option Addr, ∃ cc18 : Nat, ∃ l19 : List Int, ∃ g20 : Int, (plunderref2_Arena_reserve_l1 K p1 m l19 g20) = some o16 ∧ ∃ j, Rep 53 (lk [(0, .pointer (some ⟨B0, 0, none⟩)), (1, .int .i64 p1), (4, .pointer (some ⟨b5, 0, none⟩)), (5, .int .i64 ((p0.Held.length : Nat) : Int)), (6, .int .i64 g20)] j) a ∧ Fit z (sepL (pts B0 (.cells #[.int .i64 p0.Most, .slice ca17 l19.length cc18, .bool p0.On, .int .i64 p0.Actor, .slice ca3 p0.Book.length cc4] 34) :: ro2 ca17 cc18 l19 :: ro96 ca3 cc4 p0.Book :: pts b5 (.cells #[.int .i64 0, .bool false, .int .i64 0] 66) :: L)) w) K ⟨ca1, cc2, p0.Held, 0, H, j, hr, h⟩ ?_
        clear h hr a H; rintro k1 a w ⟨ca17, cc18, l19, g20, H, j, hr, h⟩
        cases k1 with
        | zero => exact absurd H (by simp [plunderref2_Arena_reserve_l1])
        | succ k1 =>
          rw [plunderref2_Arena_reserve_l1] at H
          refine wp_seq ?_
          refine wp_seq ?_
          refine wp_region_lit ?_
          refine ovs [28, 29, 30] [.int .i64 g20, .int .i64 p1, .bool (decide (g20 < p1))] hr ⟨rfl, rfl⟩ (by kernel_rfl) ?_; clear hr a; intro a hr
          refine wpList_nil ?_
          refine then_normal ?_
          by_cases c21 : g20 < p1
          ·
            replace H := ifT c21 H
            refine cond_tt hr (b := (decide (g20 < p1))) (decide_eq_true c21) ?_
            refine wp_skip ?_
            refine then_normal ?_
            refine wp_seq ?_
            refine wp_block ?_
            refine wp_region_lit ?_
            refine ovs [33, 34, 35, 36] [.pointer (some ⟨B0, 0, none⟩), .pointer (some ⟨B0, 0, none⟩), .pointer (some ⟨B0, 0, none⟩), .pointer (some ⟨B0, 1, none⟩)] hr ⟨rfl, rfl⟩ (by kernel_rfl) ?_; clear hr a; intro a hr
            refine op_val (wn rfl) rfl rfl hr (v := .slice ca17 l19.length cc18) (rl rfl (by kernel_rfl) (by kernel_rfl) (h.cell 1 rfl)) ?_; clear hr a; intro a hr
            refine op_new (wn rfl) rfl rfl hr h (vf := fun b => .slice (some ⟨b, 0, none⟩) 1 1) (cs := #[.int .i64 0]) (T := 2) (by kernel_rfl) ?_; clear h hr a; intro b22 w a h hr
            replace h : Fit z (sepL (ro2 ca17 cc18 l19 :: pts b22 (.cells #[.int .i64 0] 2) :: pts B0 (.cells #[.int .i64 p0.Most, .slice ca17 l19.length cc18, .bool p0.On, .int .i64 p0.Actor, .slice ca3 p0.Book.length cc4] 34) :: ro96 ca3 cc4 p0.Book :: pts b5 (.cells #[.int .i64 0, .bool false, .int .i64 0] 66) :: L)) _ := h.sel 5 [2, 0, 1, 3, 4] (by kernel_rfl) (by kernel_rfl)
            replace H := gd H; obtain ⟨c25, H⟩ := H
            refine op_append (n0 := l19.length) (c := 1) (bytes := 8) (wn rfl) rfl rfl hr rfl (by kernel_rfl) (by kernel_rfl) encZ_i64_ok (E := 2) (xs := l19) (by kernel_rfl) (by kernel_rfl) h (news := [0]) (m := 1) rfl ((h.pick 1).news rfl) c25 rfl ?_; clear h hr a; intro ca23 cc24 w a h hr
            refine ovs [40, 41] [.pointer (some ⟨B0, 0, none⟩), .pointer (some ⟨B0, 1, none⟩)] hr ⟨rfl, rfl⟩ (by kernel_rfl) ?_; clear hr a; intro a hr
            replace h : Fit z (sepL (pts B0 (.cells #[.int .i64 p0.Most, .slice ca17 l19.length cc18, .bool p0.On, .int .i64 p0.Actor, .slice ca3 p0.Book.length cc4] 34) :: ro2 ca23 cc24 (l19 ++ [0]) :: pts b22 (.cells #[.int .i64 0] 2) :: ro96 ca3 cc4 p0.Book :: pts b5 (.cells #[.int .i64 0, .bool false, .int .i64 0] 66) :: L)) _ := h.sel 5 [2, 0, 1, 3, 4] (by kernel_rfl) (by kernel_rfl)
            refine op_store (wn rfl) rfl hr rfl (by kernel_rfl) (by kernel_rfl) (v := .slice ca23 ((l19 ++ [0]).length) cc24) rfl rfl (by kernel_rfl) h (i := 1) rfl ?_; clear h; intro w h
            refine wpList_nil ?_
            replace h : Fit z (sepL (pts B0 (.cells #[.int .i64 p0.Most, .slice ca23 ((l19 ++ [0]).length) cc24, .bool p0.On, .int .i64 p0.Actor, .slice ca3 p0.Book.length cc4] 34) :: ro2 ca23 cc24 (l19 ++ [0]) :: pts b22 (.cells #[.int .i64 0] 2) :: ro96 ca3 cc4 p0.Book :: pts b5 (.cells #[.int .i64 0, .bool false, .int .i64 0] 66) :: L)) _ := h
            refine blk_normal ?_
            refine then_normal ?_
            refine wp_region_lit ?_
            refine ovs [31, 32, 6] [.int .i64 g20, .int .i64 (wi (g20 + (1 : Int))), .int .i64 (wi (g20 + (1 : Int)))] hr ⟨rfl, rfl⟩ (by kernel_rfl) ?_; clear hr a; intro a hr
            refine wpList_nil ?_
            refine then_normal ?_
            replace hr := hr.fold2 [(0, .pointer (some ⟨B0, 0, none⟩)), (1, .int .i64 p1), (4, .pointer (some ⟨b5, 0, none⟩)), (5, .int .i64 ((p0.Held.length : Nat) : Int)), (6, .int .i64 (wi (g20 + (1 : Int))))] (by kernel_rfl); obtain ⟨j, hr⟩ := hr
            replace h : Fit z (sepL (pts B0 (.cells #[.int .i64 p0.Most, .slice ca23 ((l19 ++ [0]).length) cc24, .bool p0.On, .int .i64 p0.Actor, .slice ca3 p0.Book.length cc4] 34) :: ro2 ca23 cc24 (l19 ++ [0]) :: ro96 ca3 cc4 p0.Book :: pts b5 (.cells #[.int .i64 0, .bool false, .int .i64 0] 66) :: L)) _ := h.sel 5 [0, 1, 3, 4] (by kernel_rfl) (by kernel_rfl)
            exact ⟨_, ⟨ca23, cc24, (l19 ++ [0]), (wi (g20 + (1 : Int))), H, j, hr, h⟩, Nat.lt_succ_self _⟩
          ·
            replace H := ifF c21 H
            refine cond_ff hr (b := (decide (g20 < p1))) (decide_eq_false c21) ?_
            refine wp_exit ?_
            refine then_exit ?_
            refine then_exit ?_
            refine blk_here ?_
            refine then_normal ?_
            replace hr := hr.fold2 [(0, .pointer (some ⟨B0, 0, none⟩)), (1, .int .i64 p1), (4, .pointer (some ⟨b5, 0, none⟩)), (5, .int .i64 ((p0.Held.length : Nat) : Int))] (by kernel_rfl); obtain ⟨j, hr⟩ := hr
            exact ⟨(), ca17, cc18, l19, sinj H, j, hr, h⟩
      clear h hr a; rintro _ a w ⟨ca12, cc13, l14, rfl, j, hr, h⟩
      replace H := kk1 hK15
      refine wp_seq ?_
      refine wp_region_lit ?_
      refine ovs [42, 43, 44, 45] [.pointer (some ⟨B0, 0, none⟩), .pointer (some ⟨B0, 0, none⟩), .pointer (some ⟨B0, 0, none⟩), .pointer (some ⟨B0, 3, none⟩)] hr ⟨rfl, rfl⟩ (by kernel_rfl) ?_; clear hr a; intro a hr
      refine op_val (wn rfl) rfl rfl hr (v := .int .i64 p0.Actor) (rl rfl (by kernel_rfl) (by kernel_rfl) (h.cell 3 rfl)) ?_; clear hr a; intro a hr
      replace H := bd1 H; obtain ⟨S26, e27, H⟩ := H
      refine ovs [47, 48, 49] [.int .i64 ((p0.Held.length : Nat) : Int), .int .i64 p1, .agg #[.int .i64 p0.Actor, .int .i64 4, .int .i64 ((p0.Held.length : Nat) : Int), .int .i64 p1, .int .i64 0, .bool true]] hr ⟨rfl, rfl⟩ (by kernel_rfl) ?_; clear hr a; intro a hr
      have hc := plunderref2_Arena_note_ok (H := e27) (h := h)
      refine op_call (wn rfl) rfl rfl hr (f := 60) (args := #[.pointer (some ⟨B0, 0, none⟩), .agg #[.int .i64 p0.Actor, .int .i64 4, .int .i64 ((p0.Held.length : Nat) : Int), .int .i64 p1, .int .i64 0, .bool true]]) (by kernel_rfl) hc ?_; clear hc h
      rintro _ w ⟨caq28, ccq29, caq30, ccq31, rfl, h⟩; refine ⟨_, rfl, ?_⟩
      clear hr a; intro a hr
      refine wpList_nil ?_
      refine then_normal ?_
      refine wp_seq ?_
      refine wp_region_lit ?_
      refine ovs [51, 52] [.int .i64 ((p0.Held.length : Nat) : Int), .agg #[.int .i64 ((p0.Held.length : Nat) : Int), .bool true, .int .i64 0]] hr ⟨rfl, rfl⟩ (by kernel_rfl) ?_; clear hr a; intro a hr
      replace h : Fit z (sepL (pts b5 (.cells #[.int .i64 0, .bool false, .int .i64 0] 66) :: ob34 B0 S26 caq28 ccq29 caq30 ccq31 :: ro2 caq28 ccq29 S26.Held :: ro96 caq30 ccq31 S26.Book :: L)) _ := h.sel 4 [3, 0, 1, 2] (by kernel_rfl) (by kernel_rfl)
      refine op_stores (wn rfl) rfl hr rfl (by kernel_rfl) (by kernel_rfl) (vs := [.int .i64 ((p0.Held.length : Nat) : Int), .bool true, .int .i64 0]) rfl rfl (by kernel_rfl) h (i := 0) (cs' := #[.int .i64 ((p0.Held.length : Nat) : Int), .bool true, .int .i64 0]) rfl ?_; clear h; intro w h
      refine wpList_nil ?_
      replace h : Fit z (sepL (pts b5 (.cells #[.int .i64 ((p0.Held.length : Nat) : Int), .bool true, .int .i64 0] 66) :: ob34 B0 S26 caq28 ccq29 caq30 ccq31 :: ro2 caq28 ccq29 S26.Held :: ro96 caq30 ccq31 S26.Book :: L)) _ := h
      refine then_normal ?_
      refine wp_ret ?_
      refine end_retC (cs := [.int .i64 ((p0.Held.length : Nat) : Int), .bool true, .int .i64 0]) rfl hr (by kernel_rfl) (by kernel_rfl) (by kernel_rfl) ⟨h.cell 0 rfl, h.cell 1 rfl, h.cell 2 rfl, trivial⟩ ?_
      replace h : Fit z (sepL (ob34 B0 S26 caq28 ccq29 caq30 ccq31 :: ro2 caq28 ccq29 S26.Held :: ro96 caq30 ccq31 S26.Book :: L)) _ := h.sel 4 [1, 2, 3] (by kernel_rfl) (by kernel_rfl)
      replace H := ej2 H; obtain ⟨rfl, rfl⟩ := H
      exact ⟨caq28, ccq29, caq30, ccq31, rfl, h⟩

/-- (*plunder/plunderref2.Arena).Do -/
def plunderref2_Arena_Do (K : Nat) (p0 : T_plunderref2_Arena) (p1 : T_api_Act) : Option (T_api_Effect × T_plunderref2_Arena) :=
  jn0 ((if p1.Kind < (0 : Int) then ob1 (plunderref2_refused 23) (fun r10 => some (.inr (r10, p0))) else (if p1.Kind > (4 : Int) then ob1 (plunderref2_refused 23) (fun r13 => some (.inr (r13, p0))) else some (.inl ())))) ((if p1.Kind = (4 : Int) then ob2 (plunderref2_Arena_reserve K p0 p1.A) (fun r16 S17 => some (r16, S17)) else jn0 ((if p1.Addr < (0 : Int) then ob1 (plunderref2_refused 20) (fun r27 => some (.inr (r27, p0))) else (if p1.Addr ≥ ((p0.Held.length : Nat) : Int) then ob1 (plunderref2_refused 20) (fun r30 => some (.inr (r30, p0))) else some (.inl ())))) (if inr_ p1.Addr p0.Held.length then (if p1.Kind = (0 : Int) then ob1 (plunderref2_Arena_note p0 (⟨p0.Actor, p1.Kind, p1.Addr, (at_ p0.Held p1.Addr.toNat), 0, true⟩ : T_api_Access)) (fun S36 => some ((⟨(at_ p0.Held p1.Addr.toNat), true, 0⟩ : T_api_Effect), S36)) else (if p1.Kind = (1 : Int) then ob1 (plunderref2_Arena_note ({ p0 with Held := p0.Held.set p1.Addr.toNat p1.A }) (⟨p0.Actor, p1.Kind, p1.Addr, p1.A, 0, true⟩ : T_api_Access)) (fun S44 => some ((⟨0, true, 0⟩ : T_api_Effect), S44)) else (if p1.Kind = (2 : Int) then (if (at_ p0.Held p1.Addr.toNat) = p1.A then ob1 (plunderref2_Arena_note ({ p0 with Held := p0.Held.set p1.Addr.toNat p1.B }) (⟨p0.Actor, p1.Kind, p1.Addr, p1.A, p1.B, (at_ p0.Held p1.Addr.toNat) == p1.A⟩ : T_api_Access)) (fun S53 => some ((⟨0, (at_ p0.Held p1.Addr.toNat) == p1.A, 0⟩ : T_api_Effect), S53)) else ob1 (plunderref2_Arena_note p0 (⟨p0.Actor, p1.Kind, p1.Addr, p1.A, p1.B, (at_ p0.Held p1.Addr.toNat) == p1.A⟩ : T_api_Access)) (fun S59 => some ((⟨0, (at_ p0.Held p1.Addr.toNat) == p1.A, 0⟩ : T_api_Effect), S59))) else ob1 (plunderref2_Arena_note ({ p0 with Held := p0.Held.set p1.Addr.toNat (wi ((at_ p0.Held p1.Addr.toNat) + p1.A)) }) (⟨p0.Actor, p1.Kind, p1.Addr, p1.A, wi ((at_ p0.Held p1.Addr.toNat) + p1.A), true⟩ : T_api_Access)) (fun S66 => some ((⟨wi ((at_ p0.Held p1.Addr.toNat) + p1.A), true, 0⟩ : T_api_Effect), S66))))) else none)))
set_option maxRecDepth 100000 in
set_option maxHeartbeats 4000000 in
theorem plunderref2_Arena_Do_ok {z w : World} {L : List HProp} {K : Nat} {p0 : T_plunderref2_Arena} {p1 : T_api_Act} {B0 : Nat} {ca1 : Option Addr} {cc2 : Nat} {ca3 : Option Addr} {cc4 : Nat} {r0 : T_api_Effect} {q0 : T_plunderref2_Arena} (H : plunderref2_Arena_Do K p0 p1 = some (r0, q0)) (h : Fit z (sepL (ob34 B0 p0 ca1 cc2 ca3 cc4 :: ro2 ca1 cc2 p0.Held :: ro96 ca3 cc4 p0.Book :: L)) w)  :
    Calls Try.prog 34 #[.pointer (some ⟨B0, 0, none⟩), .agg #[.int .i64 p1.Who, .int .i64 p1.Kind, .int .i64 p1.Addr, .int .i64 p1.A, .int .i64 p1.B]] w fun e w => ∃ caq0_1 : Option Addr, ∃ ccq0_2 : Nat, ∃ caq0_3 : Option Addr, ∃ ccq0_4 : Nat, e = .returned (.agg #[.int .i64 r0.V, .bool r0.OK, .int .i64 r0.Err]) ∧ Fit z (sepL (ob34 B0 q0 caq0_1 ccq0_2 caq0_3 ccq0_4 :: ro2 caq0_1 ccq0_2 q0.Held :: ro96 caq0_3 ccq0_4 q0.Book :: L)) w := by
  unfold plunderref2_Arena_Do at H
  refine enter Try.func34 rfl 139 rfl rfl [(0, .pointer (some ⟨B0, 0, none⟩)), (1, .agg #[.int .i64 p1.Who, .int .i64 p1.Kind, .int .i64 p1.Addr, .int .i64 p1.A, .int .i64 p1.B])] ⟨rfl, rfl, trivial⟩ ?_
  intro j a hr
  refine wp_seq ?_
  refine wp_region_lit ?_
  refine op_new (wn rfl) rfl rfl hr h (vf := fun b => .pointer (some ⟨b, 0, none⟩)) (cs := #[.int .i64 p1.Who, .int .i64 p1.Kind, .int .i64 p1.Addr, .int .i64 p1.A, .int .i64 p1.B]) (T := 69) (by kernel_rfl) ?_; clear h hr a; intro b5 w a h hr
  refine op_new (wn rfl) rfl rfl hr h (vf := fun b => .pointer (some ⟨b, 0, none⟩)) (cs := #[.int .i64 0, .bool false, .int .i64 0]) (T := 66) (by kernel_rfl) ?_; clear h hr a; intro b6 w a h hr
  refine wpList_nil ?_
  refine then_normal ?_
  replace H := jd0 H; obtain ⟨o8, H, hK7⟩ := H
  refine cut_rule (β := Unit) (fun _ a w => .inl () = o8 ∧ ∃ j, Rep 139 (lk [(0, .pointer (some ⟨B0, 0, none⟩)), (3, .pointer (some ⟨b5, 0, none⟩)), (4, .pointer (some ⟨b6, 0, none⟩))] j) a ∧ Fit z (sepL (ob34 B0 p0 ca1 cc2 ca3 cc4 :: ro2 ca1 cc2 p0.Held :: ro96 ca3 cc4 p0.Book :: ob69 b5 p1 :: pts b6 (.cells #[.int .i64 0, .bool false, .int .i64 0] 66) :: L)) w) ?_ ?_
  ·
    refine wp_seq ?_
    refine wp_region_lit ?_
    refine ov hr (.pointer (some ⟨b5, 1, none⟩)) (by kernel_rfl) ?_; clear hr a; intro a hr
    refine op_val (wn rfl) rfl rfl hr (v := .int .i64 p1.Kind) (rl rfl (by kernel_rfl) (by kernel_rfl) ((h.pick 1).cell 1 rfl)) ?_; clear hr a; intro a hr
    refine ovs [11, 12] [.bool (decide (p1.Kind < (0 : Int))), .bool (decide (p1.Kind < (0 : Int)))] hr ⟨rfl, rfl⟩ (by kernel_rfl) ?_; clear hr a; intro a hr
    by_cases c9 : p1.Kind < (0 : Int)
    ·
      replace H := ifT c9 H
      refine op_off ((wg hr rfl rfl rfl (b' := (decide (p1.Kind < (0 : Int)))) (by kernel_rfl)).trans (by rw [show (decide (p1.Kind < (0 : Int))) = true from (decide_eq_true c9)]; rfl)) rfl rfl hr ?_; clear hr a; intro a hr
      refine op_off ((wg hr rfl rfl rfl (b' := (decide (p1.Kind < (0 : Int)))) (by kernel_rfl)).trans (by rw [show (decide (p1.Kind < (0 : Int))) = true from (decide_eq_true c9)]; rfl)) rfl rfl hr ?_; clear hr a; intro a hr
      refine op_off ((wg hr rfl rfl rfl (b' := (decide (p1.Kind < (0 : Int)))) (by kernel_rfl)).trans (by rw [show (decide (p1.Kind < (0 : Int))) = true from (decide_eq_true c9)]; rfl)) rfl rfl hr ?_; clear hr a; intro a hr
      refine op_val (wn rfl) rfl rfl hr (v := .bool true) (rp_t (b := (decide (p1.Kind < (0 : Int)))) rfl (by kernel_rfl) (decide_eq_true c9) (by kernel_rfl)) ?_; clear hr a; intro a hr
      refine wpList_nil ?_
      refine then_normal ?_
      refine cond_tt hr (b := true) rfl ?_
      refine wp_seq ?_
      refine wp_region_lit ?_
      replace H := bd1 H; obtain ⟨r10, e11, H⟩ := H
      have hc := plunderref2_refused_ok (H := e11) (h := h)
      refine op_call (wn rfl) rfl rfl hr (f := 58) (args := #[.int .i64 23]) (by kernel_rfl) hc ?_; clear hc h
      rintro _ w ⟨rfl, h⟩; refine ⟨_, rfl, ?_⟩
      clear hr a; intro a hr
      refine op_stores (wn rfl) rfl hr rfl (by kernel_rfl) (by kernel_rfl) (vs := [.int .i64 r10.V, .bool r10.OK, .int .i64 r10.Err]) rfl rfl (by kernel_rfl) h (i := 0) (cs' := #[.int .i64 r10.V, .bool r10.OK, .int .i64 r10.Err]) rfl ?_; clear h; intro w h
      refine wpList_nil ?_
      replace h : Fit z (sepL (ob66 b6 r10 :: ob69 b5 p1 :: ob34 B0 p0 ca1 cc2 ca3 cc4 :: ro2 ca1 cc2 p0.Held :: ro96 ca3 cc4 p0.Book :: L)) _ := h
      refine then_normal ?_
      refine wp_ret ?_
      refine then_ret ?_
      refine end_retC (cs := [.int .i64 r10.V, .bool r10.OK, .int .i64 r10.Err]) rfl hr (by kernel_rfl) (by kernel_rfl) (by kernel_rfl) ⟨h.cell 0 rfl, h.cell 1 rfl, h.cell 2 rfl, trivial⟩ ?_
      replace H := jx0 H hK7
      replace h : Fit z (sepL (ob34 B0 p0 ca1 cc2 ca3 cc4 :: ro2 ca1 cc2 p0.Held :: ro96 ca3 cc4 p0.Book :: L)) _ := h.sel 5 [2, 3, 4] (by kernel_rfl) (by kernel_rfl)
      replace H := ej2 H; obtain ⟨rfl, rfl⟩ := H
      exact ⟨ca1, cc2, ca3, cc4, rfl, h⟩
    ·
      replace H := ifF c9 H
      refine op_val ((wg hr rfl rfl rfl (b' := (decide (p1.Kind < (0 : Int)))) (by kernel_rfl)).trans (by rw [show (decide (p1.Kind < (0 : Int))) = false from (decide_eq_false c9)]; rfl)) rfl rfl hr (v := .pointer (some ⟨b5, 1, none⟩)) (by kernel_rfl) ?_; clear hr a; intro a hr
      refine op_val ((wg hr rfl rfl rfl (b' := (decide (p1.Kind < (0 : Int)))) (by kernel_rfl)).trans (by rw [show (decide (p1.Kind < (0 : Int))) = false from (decide_eq_false c9)]; rfl)) rfl rfl hr (v := .int .i64 p1.Kind) (rl rfl (by kernel_rfl) (by kernel_rfl) ((h.pick 1).cell 1 rfl)) ?_; clear hr a; intro a hr
      refine op_val ((wg hr rfl rfl rfl (b' := (decide (p1.Kind < (0 : Int)))) (by kernel_rfl)).trans (by rw [show (decide (p1.Kind < (0 : Int))) = false from (decide_eq_false c9)]; rfl)) rfl rfl hr (v := .bool (decide (p1.Kind > (4 : Int)))) (by kernel_rfl) ?_; clear hr a; intro a hr
      refine op_val (wn rfl) rfl rfl hr (v := .bool (decide (p1.Kind > (4 : Int)))) (rp_f (b := (decide (p1.Kind < (0 : Int)))) rfl (by kernel_rfl) (decide_eq_false c9) (by kernel_rfl)) ?_; clear hr a; intro a hr
      refine wpList_nil ?_
      refine then_normal ?_
      by_cases c12 : p1.Kind > (4 : Int)
      ·
        replace H := ifT c12 H
        refine cond_tt hr (b := (decide (p1.Kind > (4 : Int)))) (decide_eq_true c12) ?_
        refine wp_seq ?_
        refine wp_region_lit ?_
        replace H := bd1 H; obtain ⟨r13, e14, H⟩ := H
        have hc := plunderref2_refused_ok (H := e14) (h := h)
        refine op_call (wn rfl) rfl rfl hr (f := 58) (args := #[.int .i64 23]) (by kernel_rfl) hc ?_; clear hc h
        rintro _ w ⟨rfl, h⟩; refine ⟨_, rfl, ?_⟩
        clear hr a; intro a hr
        refine op_stores (wn rfl) rfl hr rfl (by kernel_rfl) (by kernel_rfl) (vs := [.int .i64 r13.V, .bool r13.OK, .int .i64 r13.Err]) rfl rfl (by kernel_rfl) h (i := 0) (cs' := #[.int .i64 r13.V, .bool r13.OK, .int .i64 r13.Err]) rfl ?_; clear h; intro w h
        refine wpList_nil ?_
        replace h : Fit z (sepL (ob66 b6 r13 :: ob69 b5 p1 :: ob34 B0 p0 ca1 cc2 ca3 cc4 :: ro2 ca1 cc2 p0.Held :: ro96 ca3 cc4 p0.Book :: L)) _ := h
        refine then_normal ?_
        refine wp_ret ?_
        refine then_ret ?_
        refine end_retC (cs := [.int .i64 r13.V, .bool r13.OK, .int .i64 r13.Err]) rfl hr (by kernel_rfl) (by kernel_rfl) (by kernel_rfl) ⟨h.cell 0 rfl, h.cell 1 rfl, h.cell 2 rfl, trivial⟩ ?_
        replace H := jx0 H hK7
        replace h : Fit z (sepL (ob34 B0 p0 ca1 cc2 ca3 cc4 :: ro2 ca1 cc2 p0.Held :: ro96 ca3 cc4 p0.Book :: L)) _ := h.sel 5 [2, 3, 4] (by kernel_rfl) (by kernel_rfl)
        replace H := ej2 H; obtain ⟨rfl, rfl⟩ := H
        exact ⟨ca1, cc2, ca3, cc4, rfl, h⟩
      ·
        replace H := ifF c12 H
        refine cond_ff hr (b := (decide (p1.Kind > (4 : Int)))) (decide_eq_false c12) ?_
        refine wp_skip ?_
        refine then_normal ?_
        replace hr := hr.fold2 [(0, .pointer (some ⟨B0, 0, none⟩)), (3, .pointer (some ⟨b5, 0, none⟩)), (4, .pointer (some ⟨b6, 0, none⟩))] (by kernel_rfl); obtain ⟨j, hr⟩ := hr
        replace h : Fit z (sepL (ob34 B0 p0 ca1 cc2 ca3 cc4 :: ro2 ca1 cc2 p0.Held :: ro96 ca3 cc4 p0.Book :: ob69 b5 p1 :: pts b6 (.cells #[.int .i64 0, .bool false, .int .i64 0] 66) :: L)) _ := h.sel 5 [2, 3, 4, 1, 0] (by kernel_rfl) (by kernel_rfl)
        exact ⟨(), sinj H, j, hr, h⟩
  clear h hr a; rintro _ a w ⟨rfl, j, hr, h⟩
  replace H := jk0 hK7
  refine wp_seq ?_
  refine wp_seq ?_
  refine wp_region_lit ?_
  refine ov hr (.pointer (some ⟨b5, 1, none⟩)) (by kernel_rfl) ?_; clear hr a; intro a hr
  refine op_val (wn rfl) rfl rfl hr (v := .int .i64 p1.Kind) (rl rfl (by kernel_rfl) (by kernel_rfl) ((h.pick 3).cell 1 rfl)) ?_; clear hr a; intro a hr
  refine ov hr (.bool (p1.Kind == (4 : Int))) (by kernel_rfl) ?_; clear hr a; intro a hr
  refine wpList_nil ?_
  refine then_normal ?_
  by_cases c15 : p1.Kind = (4 : Int)
  ·
    replace H := ifT c15 H
    refine cond_tt hr (b := (p1.Kind == (4 : Int))) (beq_iff_eq.mpr c15) ?_
    refine wp_seq ?_
    refine wp_region_lit ?_
    refine ovs [21, 22] [.pointer (some ⟨B0, 0, none⟩), .pointer (some ⟨b5, 3, none⟩)] hr ⟨rfl, rfl⟩ (by kernel_rfl) ?_; clear hr a; intro a hr
    refine op_val (wn rfl) rfl rfl hr (v := .int .i64 p1.A) (rl rfl (by kernel_rfl) (by kernel_rfl) ((h.pick 3).cell 3 rfl)) ?_; clear hr a; intro a hr
    replace H := bd2 H; obtain ⟨r16, S17, e18, H⟩ := H
    have hc := plunderref2_Arena_reserve_ok (H := e18) (h := h)
    refine op_call (wn rfl) rfl rfl hr (f := 59) (args := #[.pointer (some ⟨B0, 0, none⟩), .int .i64 p1.A]) (by kernel_rfl) hc ?_; clear hc h
    rintro _ w ⟨caq19, ccq20, caq21, ccq22, rfl, h⟩; refine ⟨_, rfl, ?_⟩
    clear hr a; intro a hr
    refine op_new (wn rfl) rfl rfl hr h (vf := fun b => .pointer (some ⟨b, 0, none⟩)) (cs := #[.int .i64 0, .bool false, .int .i64 0]) (T := 66) (by kernel_rfl) ?_; clear h hr a; intro b23 w a h hr
    refine op_stores (wn rfl) rfl hr rfl (by kernel_rfl) (by kernel_rfl) (vs := [.int .i64 r16.V, .bool r16.OK, .int .i64 r16.Err]) rfl rfl (by kernel_rfl) h (i := 0) (cs' := #[.int .i64 r16.V, .bool r16.OK, .int .i64 r16.Err]) rfl ?_; clear h; intro w h
    refine wpList_nil ?_
    replace h : Fit z (sepL (ob66 b23 r16 :: ob34 B0 S17 caq19 ccq20 caq21 ccq22 :: ro2 caq19 ccq20 S17.Held :: ro96 caq21 ccq22 S17.Book :: ob69 b5 p1 :: pts b6 (.cells #[.int .i64 0, .bool false, .int .i64 0] 66) :: L)) _ := h
    refine then_normal ?_
    refine wp_seq ?_
    refine wp_region_lit ?_
    refine op_val (wn rfl) rfl rfl hr (v := .agg #[.int .i64 r16.V, .bool r16.OK, .int .i64 r16.Err]) (rlm (cs := [.int .i64 r16.V, .bool r16.OK, .int .i64 r16.Err]) rfl (by kernel_rfl) (by kernel_rfl) (by kernel_rfl) ⟨h.cell 0 rfl, h.cell 1 rfl, h.cell 2 rfl, trivial⟩) ?_; clear hr a; intro a hr
    replace h : Fit z (sepL (pts b6 (.cells #[.int .i64 0, .bool false, .int .i64 0] 66) :: ob66 b23 r16 :: ob34 B0 S17 caq19 ccq20 caq21 ccq22 :: ro2 caq19 ccq20 S17.Held :: ro96 caq21 ccq22 S17.Book :: ob69 b5 p1 :: L)) _ := h.sel 6 [5, 0, 1, 2, 3, 4] (by kernel_rfl) (by kernel_rfl)
    refine op_stores (wn rfl) rfl hr rfl (by kernel_rfl) (by kernel_rfl) (vs := [.int .i64 r16.V, .bool r16.OK, .int .i64 r16.Err]) rfl rfl (by kernel_rfl) h (i := 0) (cs' := #[.int .i64 r16.V, .bool r16.OK, .int .i64 r16.Err]) rfl ?_; clear h; intro w h
    refine wpList_nil ?_
    replace h : Fit z (sepL (ob66 b6 r16 :: ob66 b23 r16 :: ob34 B0 S17 caq19 ccq20 caq21 ccq22 :: ro2 caq19 ccq20 S17.Held :: ro96 caq21 ccq22 S17.Book :: ob69 b5 p1 :: L)) _ := h
    refine then_normal ?_
    refine wp_ret ?_
    refine then_ret ?_
    refine end_retC (cs := [.int .i64 r16.V, .bool r16.OK, .int .i64 r16.Err]) rfl hr (by kernel_rfl) (by kernel_rfl) (by kernel_rfl) ⟨h.cell 0 rfl, h.cell 1 rfl, h.cell 2 rfl, trivial⟩ ?_
    replace h : Fit z (sepL (ob34 B0 S17 caq19 ccq20 caq21 ccq22 :: ro2 caq19 ccq20 S17.Held :: ro96 caq21 ccq22 S17.Book :: L)) _ := h.sel 6 [2, 3, 4] (by kernel_rfl) (by kernel_rfl)
    replace H := ej2 H; obtain ⟨rfl, rfl⟩ := H
    exact ⟨caq19, ccq20, caq21, ccq22, rfl, h⟩
  ·
    replace H := ifF c15 H
    refine cond_ff hr (b := (p1.Kind == (4 : Int))) (beq_eq_false_iff_ne.mpr c15) ?_
    refine wp_skip ?_
    refine then_normal ?_
    replace H := jd0 H; obtain ⟨o25, H, hK24⟩ := H
    refine cut_rule (β := Unit) (fun _ a w => .inl () = o25 ∧ ∃ j, Rep 139 (lk [(0, .pointer (some ⟨B0, 0, none⟩)), (3, .pointer (some ⟨b5, 0, none⟩)), (4, .pointer (some ⟨b6, 0, none⟩))] j) a ∧ Fit z (sepL (ob34 B0 p0 ca1 cc2 ca3 cc4 :: ro2 ca1 cc2 p0.Held :: ro96 ca3 cc4 p0.Book :: ob69 b5 p1 :: pts b6 (.cells #[.int .i64 0, .bool false, .int .i64 0] 66) :: L)) w) ?_ ?_
    ·
      refine wp_seq ?_
      by_cases c26 : p1.Addr < (0 : Int)
      ·
        replace H := ifT c26 H
        refine reg_E (fun w => heldC w b5 2 [.int .i64 p1.Addr] ∧ True) [0] h (by kernel_rfl) ?_; intro w h
        change wpAnyE _ _ _ _ _ _ 13 (Array.replicate 13 false) a w
        have hgo : ∀ w w', CellsGo w w' → (heldC w b5 2 [.int .i64 p1.Addr] ∧ True) → heldC w' b5 2 [.int .i64 p1.Addr] ∧ True := fun w w' g hD => ⟨heldC_go _ _ _ _ _ g hD.1, trivial⟩
        refine evD hgo ⟨⟨(h.pick 3).cell 2 rfl, trivial⟩, trivial⟩ 12 0 rfl (by kernel_rfl) (wn rfl) hr (.pointer (some ⟨b5, 2, none⟩)) (fun w => by kernel_rfl) ?_; clear hr a; intro a hr
        refine el [0] (b := b5) (off := 2) (cs := [.int .i64 p1.Addr]) (fun _ hk => ⟨hk, fun w hD => hD.1⟩) 11 1 rfl (by kernel_rfl) (wn rfl) hr (.int .i64 p1.Addr) ⟨(h.pick 3).cell 2 rfl, trivial⟩ (fun w hc => rl rfl (by kernel_rfl) (by kernel_rfl) hc.1) ?_; clear hr a; intro a hr
        refine ev 10 2 rfl (by kernel_rfl) (wn rfl) hr (.bool (decide (p1.Addr < (0 : Int)))) (fun w => by kernel_rfl) ?_; clear hr a; intro a hr
        refine ev 9 3 rfl (by kernel_rfl) (wn rfl) hr (.bool (decide (p1.Addr < (0 : Int)))) (fun w => by kernel_rfl) ?_; clear hr a; intro a hr
        refine eo 8 4 rfl (by kernel_rfl) ((wg hr rfl rfl rfl (b' := (decide (p1.Addr < (0 : Int)))) (by kernel_rfl)).trans (by rw [show (decide (p1.Addr < (0 : Int))) = true from (decide_eq_true c26)]; rfl)) hr ?_; clear hr a; intro a hr
        refine eo 7 6 rfl (by kernel_rfl) ((wg hr rfl rfl rfl (b' := (decide (p1.Addr < (0 : Int)))) (by kernel_rfl)).trans (by rw [show (decide (p1.Addr < (0 : Int))) = true from (decide_eq_true c26)]; rfl)) hr ?_; clear hr a; intro a hr
        refine eo 6 7 rfl (by kernel_rfl) ((wg hr rfl rfl rfl (b' := (decide (p1.Addr < (0 : Int)))) (by kernel_rfl)).trans (by rw [show (decide (p1.Addr < (0 : Int))) = true from (decide_eq_true c26)]; rfl)) hr ?_; clear hr a; intro a hr
        refine eo 5 8 rfl (by kernel_rfl) ((wg hr rfl rfl rfl (b' := (decide (p1.Addr < (0 : Int)))) (by kernel_rfl)).trans (by rw [show (decide (p1.Addr < (0 : Int))) = true from (decide_eq_true c26)]; rfl)) hr ?_; clear hr a; intro a hr
        refine eo 4 5 rfl (by kernel_rfl) ((wg hr rfl rfl rfl (b' := (decide (p1.Addr < (0 : Int)))) (by kernel_rfl)).trans (by rw [show (decide (p1.Addr < (0 : Int))) = true from (decide_eq_true c26)]; rfl)) hr ?_; clear hr a; intro a hr
        refine eo 3 9 rfl (by kernel_rfl) ((wg hr rfl rfl rfl (b' := (decide (p1.Addr < (0 : Int)))) (by kernel_rfl)).trans (by rw [show (decide (p1.Addr < (0 : Int))) = true from (decide_eq_true c26)]; rfl)) hr ?_; clear hr a; intro a hr
        refine eo 2 10 rfl (by kernel_rfl) ((wg hr rfl rfl rfl (b' := (decide (p1.Addr < (0 : Int)))) (by kernel_rfl)).trans (by rw [show (decide (p1.Addr < (0 : Int))) = true from (decide_eq_true c26)]; rfl)) hr ?_; clear hr a; intro a hr
        refine eo 1 11 rfl (by kernel_rfl) ((wg hr rfl rfl rfl (b' := (decide (p1.Addr < (0 : Int)))) (by kernel_rfl)).trans (by rw [show (decide (p1.Addr < (0 : Int))) = true from (decide_eq_true c26)]; rfl)) hr ?_; clear hr a; intro a hr
        refine ev 0 12 rfl (by kernel_rfl) (wn rfl) hr (.bool true) (fun w => rp_t (b := (decide (p1.Addr < (0 : Int)))) rfl (by kernel_rfl) (decide_eq_true c26) (by kernel_rfl)) ?_; clear hr a; intro a hr
        refine e_end (by kernel_rfl) ?_
        refine then_normal ?_
        refine cond_tt hr (b := true) rfl ?_
        refine wp_seq ?_
        refine wp_region_lit ?_
        replace H := bd1 H; obtain ⟨r27, e28, H⟩ := H
        have hc := plunderref2_refused_ok (H := e28) (h := h)
        refine op_call (wn rfl) rfl rfl hr (f := 58) (args := #[.int .i64 20]) (by kernel_rfl) hc ?_; clear hc h
        rintro _ w ⟨rfl, h⟩; refine ⟨_, rfl, ?_⟩
        clear hr a; intro a hr
        replace h : Fit z (sepL (pts b6 (.cells #[.int .i64 0, .bool false, .int .i64 0] 66) :: ob34 B0 p0 ca1 cc2 ca3 cc4 :: ro2 ca1 cc2 p0.Held :: ro96 ca3 cc4 p0.Book :: ob69 b5 p1 :: L)) _ := h.sel 5 [4, 0, 1, 2, 3] (by kernel_rfl) (by kernel_rfl)
        refine op_stores (wn rfl) rfl hr rfl (by kernel_rfl) (by kernel_rfl) (vs := [.int .i64 r27.V, .bool r27.OK, .int .i64 r27.Err]) rfl rfl (by kernel_rfl) h (i := 0) (cs' := #[.int .i64 r27.V, .bool r27.OK, .int .i64 r27.Err]) rfl ?_; clear h; intro w h
        refine wpList_nil ?_
        replace h : Fit z (sepL (ob66 b6 r27 :: ob34 B0 p0 ca1 cc2 ca3 cc4 :: ro2 ca1 cc2 p0.Held :: ro96 ca3 cc4 p0.Book :: ob69 b5 p1 :: L)) _ := h
        refine then_normal ?_
        refine wp_ret ?_
        refine then_ret ?_
        refine end_retC (cs := [.int .i64 r27.V, .bool r27.OK, .int .i64 r27.Err]) rfl hr (by kernel_rfl) (by kernel_rfl) (by kernel_rfl) ⟨h.cell 0 rfl, h.cell 1 rfl, h.cell 2 rfl, trivial⟩ ?_
        replace H := jx0 H hK24
        replace h : Fit z (sepL (ob34 B0 p0 ca1 cc2 ca3 cc4 :: ro2 ca1 cc2 p0.Held :: ro96 ca3 cc4 p0.Book :: L)) _ := h.sel 5 [1, 2, 3] (by kernel_rfl) (by kernel_rfl)
        replace H := ej2 H; obtain ⟨rfl, rfl⟩ := H
        exact ⟨ca1, cc2, ca3, cc4, rfl, h⟩
      ·
        replace H := ifF c26 H
        refine reg_E (fun w => heldC w b5 2 [.int .i64 p1.Addr] ∧ heldC w b5 2 [.int .i64 p1.Addr] ∧ heldC w B0 1 [.slice ca1 p0.Held.length cc2] ∧ True) [0, 2, 4, 7, 8, 10] h (by kernel_rfl) ?_; intro w h
        change wpAnyE _ _ _ _ _ _ 13 (Array.replicate 13 false) a w
        have hgo : ∀ w w', CellsGo w w' → (heldC w b5 2 [.int .i64 p1.Addr] ∧ heldC w b5 2 [.int .i64 p1.Addr] ∧ heldC w B0 1 [.slice ca1 p0.Held.length cc2] ∧ True) → heldC w' b5 2 [.int .i64 p1.Addr] ∧ heldC w' b5 2 [.int .i64 p1.Addr] ∧ heldC w' B0 1 [.slice ca1 p0.Held.length cc2] ∧ True := fun w w' g hD => ⟨heldC_go _ _ _ _ _ g hD.1, heldC_go _ _ _ _ _ g hD.2.1, heldC_go _ _ _ _ _ g hD.2.2.1, trivial⟩
        refine evD hgo ⟨⟨(h.pick 3).cell 2 rfl, trivial⟩, ⟨(h.pick 3).cell 2 rfl, trivial⟩, ⟨h.cell 1 rfl, trivial⟩, trivial⟩ 12 0 rfl (by kernel_rfl) (wn rfl) hr (.pointer (some ⟨b5, 2, none⟩)) (fun w => by kernel_rfl) ?_; clear hr a; intro a hr
        refine el [0, 2, 4, 7, 8, 10] (b := b5) (off := 2) (cs := [.int .i64 p1.Addr]) (fun _ hk => ⟨hk, fun w hD => hD.1⟩) 11 1 rfl (by kernel_rfl) (wn rfl) hr (.int .i64 p1.Addr) ⟨(h.pick 3).cell 2 rfl, trivial⟩ (fun w hc => rl rfl (by kernel_rfl) (by kernel_rfl) hc.1) ?_; clear hr a; intro a hr
        refine evD hgo ⟨⟨(h.pick 3).cell 2 rfl, trivial⟩, ⟨(h.pick 3).cell 2 rfl, trivial⟩, ⟨h.cell 1 rfl, trivial⟩, trivial⟩ 10 2 rfl (by kernel_rfl) (wn rfl) hr (.bool (decide (p1.Addr < (0 : Int)))) (fun w => by kernel_rfl) ?_; clear hr a; intro a hr
        refine ev 9 3 rfl (by kernel_rfl) (wn rfl) hr (.bool (decide (p1.Addr < (0 : Int)))) (fun w => by kernel_rfl) ?_; clear hr a; intro a hr
        refine evD hgo ⟨⟨(h.pick 3).cell 2 rfl, trivial⟩, ⟨(h.pick 3).cell 2 rfl, trivial⟩, ⟨h.cell 1 rfl, trivial⟩, trivial⟩ 8 4 rfl (by kernel_rfl) ((wg hr rfl rfl rfl (b' := (decide (p1.Addr < (0 : Int)))) (by kernel_rfl)).trans (by rw [show (decide (p1.Addr < (0 : Int))) = false from (decide_eq_false c26)]; rfl)) hr (.pointer (some ⟨b5, 2, none⟩)) (fun w => by kernel_rfl) ?_; clear hr a; intro a hr
        refine ev 7 6 rfl (by kernel_rfl) ((wg hr rfl rfl rfl (b' := (decide (p1.Addr < (0 : Int)))) (by kernel_rfl)).trans (by rw [show (decide (p1.Addr < (0 : Int))) = false from (decide_eq_false c26)]; rfl)) hr (.pointer (some ⟨B0, 0, none⟩)) (fun w => by kernel_rfl) ?_; clear hr a; intro a hr
        refine evD hgo ⟨⟨(h.pick 3).cell 2 rfl, trivial⟩, ⟨(h.pick 3).cell 2 rfl, trivial⟩, ⟨h.cell 1 rfl, trivial⟩, trivial⟩ 6 7 rfl (by kernel_rfl) ((wg hr rfl rfl rfl (b' := (decide (p1.Addr < (0 : Int)))) (by kernel_rfl)).trans (by rw [show (decide (p1.Addr < (0 : Int))) = false from (decide_eq_false c26)]; rfl)) hr (.pointer (some ⟨B0, 0, none⟩)) (fun w => by kernel_rfl) ?_; clear hr a; intro a hr
        refine evD hgo ⟨⟨(h.pick 3).cell 2 rfl, trivial⟩, ⟨(h.pick 3).cell 2 rfl, trivial⟩, ⟨h.cell 1 rfl, trivial⟩, trivial⟩ 5 8 rfl (by kernel_rfl) ((wg hr rfl rfl rfl (b' := (decide (p1.Addr < (0 : Int)))) (by kernel_rfl)).trans (by rw [show (decide (p1.Addr < (0 : Int))) = false from (decide_eq_false c26)]; rfl)) hr (.pointer (some ⟨B0, 1, none⟩)) (fun w => by kernel_rfl) ?_; clear hr a; intro a hr
        refine el [0, 2, 4, 7, 8, 10] (b := b5) (off := 2) (cs := [.int .i64 p1.Addr]) (fun _ hk => ⟨hk, fun w hD => hD.2.1⟩) 4 5 rfl (by kernel_rfl) ((wg hr rfl rfl rfl (b' := (decide (p1.Addr < (0 : Int)))) (by kernel_rfl)).trans (by rw [show (decide (p1.Addr < (0 : Int))) = false from (decide_eq_false c26)]; rfl)) hr (.int .i64 p1.Addr) ⟨(h.pick 3).cell 2 rfl, trivial⟩ (fun w hc => rl rfl (by kernel_rfl) (by kernel_rfl) hc.1) ?_; clear hr a; intro a hr
        refine el [0, 2, 4, 7, 8, 10] (b := B0) (off := 1) (cs := [.slice ca1 p0.Held.length cc2]) (fun _ hk => ⟨hk, fun w hD => hD.2.2.1⟩) 3 9 rfl (by kernel_rfl) ((wg hr rfl rfl rfl (b' := (decide (p1.Addr < (0 : Int)))) (by kernel_rfl)).trans (by rw [show (decide (p1.Addr < (0 : Int))) = false from (decide_eq_false c26)]; rfl)) hr (.slice ca1 p0.Held.length cc2) ⟨h.cell 1 rfl, trivial⟩ (fun w hc => rl rfl (by kernel_rfl) (by kernel_rfl) hc.1) ?_; clear hr a; intro a hr
        refine evD hgo ⟨⟨(h.pick 3).cell 2 rfl, trivial⟩, ⟨(h.pick 3).cell 2 rfl, trivial⟩, ⟨h.cell 1 rfl, trivial⟩, trivial⟩ 2 10 rfl (by kernel_rfl) ((wg hr rfl rfl rfl (b' := (decide (p1.Addr < (0 : Int)))) (by kernel_rfl)).trans (by rw [show (decide (p1.Addr < (0 : Int))) = false from (decide_eq_false c26)]; rfl)) hr (.int .i64 ((p0.Held.length : Nat) : Int)) (fun w => by kernel_rfl) ?_; clear hr a; intro a hr
        refine ev 1 11 rfl (by kernel_rfl) ((wg hr rfl rfl rfl (b' := (decide (p1.Addr < (0 : Int)))) (by kernel_rfl)).trans (by rw [show (decide (p1.Addr < (0 : Int))) = false from (decide_eq_false c26)]; rfl)) hr (.bool (decide (p1.Addr ≥ ((p0.Held.length : Nat) : Int)))) (fun w => by kernel_rfl) ?_; clear hr a; intro a hr
        refine ev 0 12 rfl (by kernel_rfl) (wn rfl) hr (.bool (decide (p1.Addr ≥ ((p0.Held.length : Nat) : Int)))) (fun w => rp_f (b := (decide (p1.Addr < (0 : Int)))) rfl (by kernel_rfl) (decide_eq_false c26) (by kernel_rfl)) ?_; clear hr a; intro a hr
        refine e_end (by kernel_rfl) ?_
        refine then_normal ?_
        by_cases c29 : p1.Addr ≥ ((p0.Held.length : Nat) : Int)
        ·
          replace H := ifT c29 H
          refine cond_tt hr (b := (decide (p1.Addr ≥ ((p0.Held.length : Nat) : Int)))) (decide_eq_true c29) ?_
          refine wp_seq ?_
          refine wp_region_lit ?_
          replace H := bd1 H; obtain ⟨r30, e31, H⟩ := H
          have hc := plunderref2_refused_ok (H := e31) (h := h)
          refine op_call (wn rfl) rfl rfl hr (f := 58) (args := #[.int .i64 20]) (by kernel_rfl) hc ?_; clear hc h
          rintro _ w ⟨rfl, h⟩; refine ⟨_, rfl, ?_⟩
          clear hr a; intro a hr
          replace h : Fit z (sepL (pts b6 (.cells #[.int .i64 0, .bool false, .int .i64 0] 66) :: ob34 B0 p0 ca1 cc2 ca3 cc4 :: ro2 ca1 cc2 p0.Held :: ro96 ca3 cc4 p0.Book :: ob69 b5 p1 :: L)) _ := h.sel 5 [4, 0, 1, 2, 3] (by kernel_rfl) (by kernel_rfl)
          refine op_stores (wn rfl) rfl hr rfl (by kernel_rfl) (by kernel_rfl) (vs := [.int .i64 r30.V, .bool r30.OK, .int .i64 r30.Err]) rfl rfl (by kernel_rfl) h (i := 0) (cs' := #[.int .i64 r30.V, .bool r30.OK, .int .i64 r30.Err]) rfl ?_; clear h; intro w h
          refine wpList_nil ?_
          replace h : Fit z (sepL (ob66 b6 r30 :: ob34 B0 p0 ca1 cc2 ca3 cc4 :: ro2 ca1 cc2 p0.Held :: ro96 ca3 cc4 p0.Book :: ob69 b5 p1 :: L)) _ := h
          refine then_normal ?_
          refine wp_ret ?_
          refine then_ret ?_
          refine end_retC (cs := [.int .i64 r30.V, .bool r30.OK, .int .i64 r30.Err]) rfl hr (by kernel_rfl) (by kernel_rfl) (by kernel_rfl) ⟨h.cell 0 rfl, h.cell 1 rfl, h.cell 2 rfl, trivial⟩ ?_
          replace H := jx0 H hK24
          replace h : Fit z (sepL (ob34 B0 p0 ca1 cc2 ca3 cc4 :: ro2 ca1 cc2 p0.Held :: ro96 ca3 cc4 p0.Book :: L)) _ := h.sel 5 [1, 2, 3] (by kernel_rfl) (by kernel_rfl)
          replace H := ej2 H; obtain ⟨rfl, rfl⟩ := H
          exact ⟨ca1, cc2, ca3, cc4, rfl, h⟩
        ·
          replace H := ifF c29 H
          refine cond_ff hr (b := (decide (p1.Addr ≥ ((p0.Held.length : Nat) : Int)))) (decide_eq_false c29) ?_
          refine wp_skip ?_
          refine then_normal ?_
          replace hr := hr.fold2 [(0, .pointer (some ⟨B0, 0, none⟩)), (3, .pointer (some ⟨b5, 0, none⟩)), (4, .pointer (some ⟨b6, 0, none⟩))] (by kernel_rfl); obtain ⟨j, hr⟩ := hr
          exact ⟨(), sinj H, j, hr, h⟩
    clear h hr a; rintro _ a w ⟨rfl, j, hr, h⟩
    replace H := jk0 hK24
    refine wp_seq ?_
    replace H := gd H; obtain ⟨c32, H⟩ := H
    refine reg_E (fun w => heldC w B0 1 [.slice ca1 p0.Held.length cc2] ∧ heldC w b5 2 [.int .i64 p1.Addr] ∧ heldC w (blk ca1) (p1.Addr.toNat * 1) [.int .i64 (at_ p0.Held p1.Addr.toNat)] ∧ True) [1, 2, 4, 6] h (by kernel_rfl) ?_; intro w h
    change wpAnyE _ _ _ _ _ _ 9 (Array.replicate 9 false) a w
    have hgo : ∀ w w', CellsGo w w' → (heldC w B0 1 [.slice ca1 p0.Held.length cc2] ∧ heldC w b5 2 [.int .i64 p1.Addr] ∧ heldC w (blk ca1) (p1.Addr.toNat * 1) [.int .i64 (at_ p0.Held p1.Addr.toNat)] ∧ True) → heldC w' B0 1 [.slice ca1 p0.Held.length cc2] ∧ heldC w' b5 2 [.int .i64 p1.Addr] ∧ heldC w' (blk ca1) (p1.Addr.toNat * 1) [.int .i64 (at_ p0.Held p1.Addr.toNat)] ∧ True := fun w w' g hD => ⟨heldC_go _ _ _ _ _ g hD.1, heldC_go _ _ _ _ _ g hD.2.1, heldC_go _ _ _ _ _ g hD.2.2.1, trivial⟩
    refine ev 8 0 rfl (by kernel_rfl) (wn rfl) hr (.pointer (some ⟨B0, 0, none⟩)) (fun w => by kernel_rfl) ?_; clear hr a; intro a hr
    refine evD hgo ⟨⟨h.cell 1 rfl, trivial⟩, ⟨(h.pick 3).cell 2 rfl, trivial⟩, ⟨(h.pick 1).row_cell encZ_i64_ok (f := 0) (at_ok c32) rfl, trivial⟩, trivial⟩ 7 1 rfl (by kernel_rfl) (wn rfl) hr (.pointer (some ⟨B0, 0, none⟩)) (fun w => by kernel_rfl) ?_; clear hr a; intro a hr
    refine evD hgo ⟨⟨h.cell 1 rfl, trivial⟩, ⟨(h.pick 3).cell 2 rfl, trivial⟩, ⟨(h.pick 1).row_cell encZ_i64_ok (f := 0) (at_ok c32) rfl, trivial⟩, trivial⟩ 6 2 rfl (by kernel_rfl) (wn rfl) hr (.pointer (some ⟨B0, 1, none⟩)) (fun w => by kernel_rfl) ?_; clear hr a; intro a hr
    refine evD hgo ⟨⟨h.cell 1 rfl, trivial⟩, ⟨(h.pick 3).cell 2 rfl, trivial⟩, ⟨(h.pick 1).row_cell encZ_i64_ok (f := 0) (at_ok c32) rfl, trivial⟩, trivial⟩ 5 4 rfl (by kernel_rfl) (wn rfl) hr (.pointer (some ⟨b5, 2, none⟩)) (fun w => by kernel_rfl) ?_; clear hr a; intro a hr
    refine el [1, 2, 4, 6] (b := B0) (off := 1) (cs := [.slice ca1 p0.Held.length cc2]) (fun _ hk => ⟨hk, fun w hD => hD.1⟩) 4 3 rfl (by kernel_rfl) (wn rfl) hr (.slice ca1 p0.Held.length cc2) ⟨h.cell 1 rfl, trivial⟩ (fun w hc => rl rfl (by kernel_rfl) (by kernel_rfl) hc.1) ?_; clear hr a; intro a hr
    refine el [1, 2, 4, 6] (b := b5) (off := 2) (cs := [.int .i64 p1.Addr]) (fun _ hk => ⟨hk, fun w hD => hD.2.1⟩) 3 5 rfl (by kernel_rfl) (wn rfl) hr (.int .i64 p1.Addr) ⟨(h.pick 3).cell 2 rfl, trivial⟩ (fun w hc => rl rfl (by kernel_rfl) (by kernel_rfl) hc.1) ?_; clear hr a; intro a hr
    refine evD hgo ⟨⟨h.cell 1 rfl, trivial⟩, ⟨(h.pick 3).cell 2 rfl, trivial⟩, ⟨(h.pick 1).row_cell encZ_i64_ok (f := 0) (at_ok c32) rfl, trivial⟩, trivial⟩ 2 6 rfl (by kernel_rfl) (wn rfl) hr (.pointer (some ⟨blk ca1, p1.Addr.toNat * 1, none⟩)) (fun w => ri_row (k := .i64) (E := 2) rfl (by kernel_rfl) (by kernel_rfl) (by kernel_rfl) (by kernel_rfl) (h.pick 1) c32) ?_; clear hr a; intro a hr
    refine el [1, 2, 4, 6] (b := blk ca1) (off := p1.Addr.toNat * 1) (cs := [.int .i64 (at_ p0.Held p1.Addr.toNat)]) (fun _ hk => ⟨hk, fun w hD => hD.2.2.1⟩) 1 7 rfl (by kernel_rfl) (wn rfl) hr (.int .i64 (at_ p0.Held p1.Addr.toNat)) ⟨(h.pick 1).row_cell encZ_i64_ok (f := 0) (at_ok c32) rfl, trivial⟩ (fun w hc => rl rfl (by kernel_rfl) (by kernel_rfl) hc.1) ?_; clear hr a; intro a hr
    refine ev 0 8 rfl (by kernel_rfl) (wn rfl) hr (.int .i64 (at_ p0.Held p1.Addr.toNat)) (fun w => by kernel_rfl) ?_; clear hr a; intro a hr
    refine e_end (by kernel_rfl) ?_
    refine then_normal ?_
    refine wp_seq ?_
    refine reg_E (fun w => heldC w B0 3 [.int .i64 p0.Actor] ∧ heldC w b5 1 [.int .i64 p1.Kind] ∧ heldC w b5 2 [.int .i64 p1.Addr] ∧ True) [1, 2, 4, 6] h (by kernel_rfl) ?_; intro w h
    change wpAnyE _ _ _ _ _ _ 11 (Array.replicate 11 false) a w
    have hgo : ∀ w w', CellsGo w w' → (heldC w B0 3 [.int .i64 p0.Actor] ∧ heldC w b5 1 [.int .i64 p1.Kind] ∧ heldC w b5 2 [.int .i64 p1.Addr] ∧ True) → heldC w' B0 3 [.int .i64 p0.Actor] ∧ heldC w' b5 1 [.int .i64 p1.Kind] ∧ heldC w' b5 2 [.int .i64 p1.Addr] ∧ True := fun w w' g hD => ⟨heldC_go _ _ _ _ _ g hD.1, heldC_go _ _ _ _ _ g hD.2.1, heldC_go _ _ _ _ _ g hD.2.2.1, trivial⟩
    refine ev 10 0 rfl (by kernel_rfl) (wn rfl) hr (.pointer (some ⟨B0, 0, none⟩)) (fun w => by kernel_rfl) ?_; clear hr a; intro a hr
    refine evD hgo ⟨⟨h.cell 3 rfl, trivial⟩, ⟨(h.pick 3).cell 1 rfl, trivial⟩, ⟨(h.pick 3).cell 2 rfl, trivial⟩, trivial⟩ 9 1 rfl (by kernel_rfl) (wn rfl) hr (.pointer (some ⟨B0, 0, none⟩)) (fun w => by kernel_rfl) ?_; clear hr a; intro a hr
    refine evD hgo ⟨⟨h.cell 3 rfl, trivial⟩, ⟨(h.pick 3).cell 1 rfl, trivial⟩, ⟨(h.pick 3).cell 2 rfl, trivial⟩, trivial⟩ 8 2 rfl (by kernel_rfl) (wn rfl) hr (.pointer (some ⟨B0, 3, none⟩)) (fun w => by kernel_rfl) ?_; clear hr a; intro a hr
    refine evD hgo ⟨⟨h.cell 3 rfl, trivial⟩, ⟨(h.pick 3).cell 1 rfl, trivial⟩, ⟨(h.pick 3).cell 2 rfl, trivial⟩, trivial⟩ 7 4 rfl (by kernel_rfl) (wn rfl) hr (.pointer (some ⟨b5, 1, none⟩)) (fun w => by kernel_rfl) ?_; clear hr a; intro a hr
    refine evD hgo ⟨⟨h.cell 3 rfl, trivial⟩, ⟨(h.pick 3).cell 1 rfl, trivial⟩, ⟨(h.pick 3).cell 2 rfl, trivial⟩, trivial⟩ 6 6 rfl (by kernel_rfl) (wn rfl) hr (.pointer (some ⟨b5, 2, none⟩)) (fun w => by kernel_rfl) ?_; clear hr a; intro a hr
    refine el [1, 2, 4, 6] (b := B0) (off := 3) (cs := [.int .i64 p0.Actor]) (fun _ hk => ⟨hk, fun w hD => hD.1⟩) 5 3 rfl (by kernel_rfl) (wn rfl) hr (.int .i64 p0.Actor) ⟨h.cell 3 rfl, trivial⟩ (fun w hc => rl rfl (by kernel_rfl) (by kernel_rfl) hc.1) ?_; clear hr a; intro a hr
    refine el [1, 2, 4, 6] (b := b5) (off := 1) (cs := [.int .i64 p1.Kind]) (fun _ hk => ⟨hk, fun w hD => hD.2.1⟩) 4 5 rfl (by kernel_rfl) (wn rfl) hr (.int .i64 p1.Kind) ⟨(h.pick 3).cell 1 rfl, trivial⟩ (fun w hc => rl rfl (by kernel_rfl) (by kernel_rfl) hc.1) ?_; clear hr a; intro a hr
    refine el [1, 2, 4, 6] (b := b5) (off := 2) (cs := [.int .i64 p1.Addr]) (fun _ hk => ⟨hk, fun w hD => hD.2.2.1⟩) 3 7 rfl (by kernel_rfl) (wn rfl) hr (.int .i64 p1.Addr) ⟨(h.pick 3).cell 2 rfl, trivial⟩ (fun w hc => rl rfl (by kernel_rfl) (by kernel_rfl) hc.1) ?_; clear hr a; intro a hr
    refine ev 2 8 rfl (by kernel_rfl) (wn rfl) hr (.agg #[.int .i64 p0.Actor, .int .i64 p1.Kind, .int .i64 p1.Addr, .int .i64 0, .int .i64 0, .bool true]) (fun w => by kernel_rfl) ?_; clear hr a; intro a hr
    refine e_one (fuel := 1) (i := 9) (by kernel_rfl) rfl ?_
    refine op_new (wn rfl) rfl rfl hr h (vf := fun b => .pointer (some ⟨b, 0, none⟩)) (cs := #[.int .i64 0, .int .i64 0, .int .i64 0, .int .i64 0, .int .i64 0, .bool false]) (T := 96) (by kernel_rfl) ?_; clear h hr a; intro b33 w a h hr
    refine wpList_nil ?_; refine then_normal ?_
    refine ⟨fun hE => absurd hE (by decide), ?_⟩
    refine e_one (fuel := 0) (i := 10) (by kernel_rfl) rfl ?_
    refine op_stores (wn rfl) rfl hr rfl (by kernel_rfl) (by kernel_rfl) (vs := [.int .i64 p0.Actor, .int .i64 p1.Kind, .int .i64 p1.Addr, .int .i64 0, .int .i64 0, .bool true]) rfl rfl (by kernel_rfl) h (i := 0) (cs' := #[.int .i64 p0.Actor, .int .i64 p1.Kind, .int .i64 p1.Addr, .int .i64 0, .int .i64 0, .bool true]) rfl ?_; clear h; intro w h
    refine wpList_nil ?_; refine then_normal ?_
    replace h : Fit z (sepL (pts b33 (.cells #[.int .i64 p0.Actor, .int .i64 p1.Kind, .int .i64 p1.Addr, .int .i64 0, .int .i64 0, .bool true] 96) :: ob34 B0 p0 ca1 cc2 ca3 cc4 :: ro2 ca1 cc2 p0.Held :: ro96 ca3 cc4 p0.Book :: ob69 b5 p1 :: pts b6 (.cells #[.int .i64 0, .bool false, .int .i64 0] 66) :: L)) _ := h
    refine ⟨fun hE => absurd hE (by decide), ?_⟩
    refine e_end (by kernel_rfl) ?_
    refine then_normal ?_
    refine wp_seq ?_
    refine wp_region_lit ?_
    refine ov hr (.agg #[.int .i64 0, .bool true, .int .i64 0]) (by kernel_rfl) ?_; clear hr a; intro a hr
    refine op_new (wn rfl) rfl rfl hr h (vf := fun b => .pointer (some ⟨b, 0, none⟩)) (cs := #[.int .i64 0, .bool false, .int .i64 0]) (T := 66) (by kernel_rfl) ?_; clear h hr a; intro b34 w a h hr
    refine op_stores (wn rfl) rfl hr rfl (by kernel_rfl) (by kernel_rfl) (vs := [.int .i64 0, .bool true, .int .i64 0]) rfl rfl (by kernel_rfl) h (i := 0) (cs' := #[.int .i64 0, .bool true, .int .i64 0]) rfl ?_; clear h; intro w h
    refine wpList_nil ?_
    replace h : Fit z (sepL (pts b34 (.cells #[.int .i64 0, .bool true, .int .i64 0] 66) :: pts b33 (.cells #[.int .i64 p0.Actor, .int .i64 p1.Kind, .int .i64 p1.Addr, .int .i64 0, .int .i64 0, .bool true] 96) :: ob34 B0 p0 ca1 cc2 ca3 cc4 :: ro2 ca1 cc2 p0.Held :: ro96 ca3 cc4 p0.Book :: ob69 b5 p1 :: pts b6 (.cells #[.int .i64 0, .bool false, .int .i64 0] 66) :: L)) _ := h
    refine then_normal ?_
    refine wp_seq ?_
    refine wp_seq ?_
    refine wp_region_lit ?_
    refine ov hr (.pointer (some ⟨b5, 1, none⟩)) (by kernel_rfl) ?_; clear hr a; intro a hr
    refine op_val (wn rfl) rfl rfl hr (v := .int .i64 p1.Kind) (rl rfl (by kernel_rfl) (by kernel_rfl) ((h.pick 5).cell 1 rfl)) ?_; clear hr a; intro a hr
    refine wpList_nil ?_
    refine then_normal ?_
    refine wp_block ?_
    refine wp_seq ?_
    refine wp_region_lit ?_
    refine ovs [85, 84] [.bool (p1.Kind == (0 : Int)), .bool (p1.Kind == (0 : Int))] hr ⟨rfl, rfl⟩ (by kernel_rfl) ?_; clear hr a; intro a hr
    refine wpList_nil ?_
    refine then_normal ?_
    by_cases c35 : p1.Kind = (0 : Int)
    ·
      replace H := ifT c35 H
      refine cond_tt hr (b := (p1.Kind == (0 : Int))) (beq_iff_eq.mpr c35) ?_
      refine wp_seq ?_
      refine wp_region_lit ?_
      refine ovs [86, 87] [.int .i64 (at_ p0.Held p1.Addr.toNat), .pointer (some ⟨b33, 3, none⟩)] hr ⟨rfl, rfl⟩ (by kernel_rfl) ?_; clear hr a; intro a hr
      replace h : Fit z (sepL (pts b33 (.cells #[.int .i64 p0.Actor, .int .i64 p1.Kind, .int .i64 p1.Addr, .int .i64 0, .int .i64 0, .bool true] 96) :: pts b34 (.cells #[.int .i64 0, .bool true, .int .i64 0] 66) :: ob34 B0 p0 ca1 cc2 ca3 cc4 :: ro2 ca1 cc2 p0.Held :: ro96 ca3 cc4 p0.Book :: ob69 b5 p1 :: pts b6 (.cells #[.int .i64 0, .bool false, .int .i64 0] 66) :: L)) _ := h.sel 7 [1, 0, 2, 3, 4, 5, 6] (by kernel_rfl) (by kernel_rfl)
      refine op_store (wn rfl) rfl hr rfl (by kernel_rfl) (by kernel_rfl) (v := .int .i64 (at_ p0.Held p1.Addr.toNat)) rfl rfl (by kernel_rfl) h (i := 3) rfl ?_; clear h; intro w h
      refine wpList_nil ?_
      replace h : Fit z (sepL (pts b33 (.cells #[.int .i64 p0.Actor, .int .i64 p1.Kind, .int .i64 p1.Addr, .int .i64 (at_ p0.Held p1.Addr.toNat), .int .i64 0, .bool true] 96) :: pts b34 (.cells #[.int .i64 0, .bool true, .int .i64 0] 66) :: ob34 B0 p0 ca1 cc2 ca3 cc4 :: ro2 ca1 cc2 p0.Held :: ro96 ca3 cc4 p0.Book :: ob69 b5 p1 :: pts b6 (.cells #[.int .i64 0, .bool false, .int .i64 0] 66) :: L)) _ := h
      refine then_normal ?_
      refine wp_region_lit ?_
      refine ovs [88, 89] [.int .i64 (at_ p0.Held p1.Addr.toNat), .pointer (some ⟨b34, 0, none⟩)] hr ⟨rfl, rfl⟩ (by kernel_rfl) ?_; clear hr a; intro a hr
      replace h : Fit z (sepL (pts b34 (.cells #[.int .i64 0, .bool true, .int .i64 0] 66) :: pts b33 (.cells #[.int .i64 p0.Actor, .int .i64 p1.Kind, .int .i64 p1.Addr, .int .i64 (at_ p0.Held p1.Addr.toNat), .int .i64 0, .bool true] 96) :: ob34 B0 p0 ca1 cc2 ca3 cc4 :: ro2 ca1 cc2 p0.Held :: ro96 ca3 cc4 p0.Book :: ob69 b5 p1 :: pts b6 (.cells #[.int .i64 0, .bool false, .int .i64 0] 66) :: L)) _ := h.sel 7 [1, 0, 2, 3, 4, 5, 6] (by kernel_rfl) (by kernel_rfl)
      refine op_store (wn rfl) rfl hr rfl (by kernel_rfl) (by kernel_rfl) (v := .int .i64 (at_ p0.Held p1.Addr.toNat)) rfl rfl (by kernel_rfl) h (i := 0) rfl ?_; clear h; intro w h
      refine wpList_nil ?_
      replace h : Fit z (sepL (pts b34 (.cells #[.int .i64 (at_ p0.Held p1.Addr.toNat), .bool true, .int .i64 0] 66) :: pts b33 (.cells #[.int .i64 p0.Actor, .int .i64 p1.Kind, .int .i64 p1.Addr, .int .i64 (at_ p0.Held p1.Addr.toNat), .int .i64 0, .bool true] 96) :: ob34 B0 p0 ca1 cc2 ca3 cc4 :: ro2 ca1 cc2 p0.Held :: ro96 ca3 cc4 p0.Book :: ob69 b5 p1 :: pts b6 (.cells #[.int .i64 0, .bool false, .int .i64 0] 66) :: L)) _ := h
      refine blk_normal ?_
      refine then_normal ?_
      refine wp_seq ?_
      refine wp_region_lit ?_
      refine ov hr (.pointer (some ⟨B0, 0, none⟩)) (by kernel_rfl) ?_; clear hr a; intro a hr
      refine op_val (wn rfl) rfl rfl hr (v := .agg #[.int .i64 p0.Actor, .int .i64 p1.Kind, .int .i64 p1.Addr, .int .i64 (at_ p0.Held p1.Addr.toNat), .int .i64 0, .bool true]) (rlm (cs := [.int .i64 p0.Actor, .int .i64 p1.Kind, .int .i64 p1.Addr, .int .i64 (at_ p0.Held p1.Addr.toNat), .int .i64 0, .bool true]) rfl (by kernel_rfl) (by kernel_rfl) (by kernel_rfl) ⟨(h.pick 1).cell 0 rfl, (h.pick 1).cell 1 rfl, (h.pick 1).cell 2 rfl, (h.pick 1).cell 3 rfl, (h.pick 1).cell 4 rfl, (h.pick 1).cell 5 rfl, trivial⟩) ?_; clear hr a; intro a hr
      replace H := bd1 H; obtain ⟨S36, e37, H⟩ := H
      replace h : Fit z (sepL (ob34 B0 p0 ca1 cc2 ca3 cc4 :: ro2 ca1 cc2 p0.Held :: ro96 ca3 cc4 p0.Book :: pts b34 (.cells #[.int .i64 (at_ p0.Held p1.Addr.toNat), .bool true, .int .i64 0] 66) :: pts b33 (.cells #[.int .i64 p0.Actor, .int .i64 p1.Kind, .int .i64 p1.Addr, .int .i64 (at_ p0.Held p1.Addr.toNat), .int .i64 0, .bool true] 96) :: ob69 b5 p1 :: pts b6 (.cells #[.int .i64 0, .bool false, .int .i64 0] 66) :: L)) _ := h.sel 7 [2, 3, 4, 0, 1, 5, 6] (by kernel_rfl) (by kernel_rfl)
      have hc := plunderref2_Arena_note_ok (H := e37) (h := h)
      refine op_call (wn rfl) rfl rfl hr (f := 60) (args := #[.pointer (some ⟨B0, 0, none⟩), .agg #[.int .i64 p0.Actor, .int .i64 p1.Kind, .int .i64 p1.Addr, .int .i64 (at_ p0.Held p1.Addr.toNat), .int .i64 0, .bool true]]) (by kernel_rfl) hc ?_; clear hc h
      rintro _ w ⟨caq38, ccq39, caq40, ccq41, rfl, h⟩; refine ⟨_, rfl, ?_⟩
      clear hr a; intro a hr
      refine wpList_nil ?_
      refine then_normal ?_
      refine wp_seq ?_
      refine wp_region_lit ?_
      refine op_val (wn rfl) rfl rfl hr (v := .agg #[.int .i64 (at_ p0.Held p1.Addr.toNat), .bool true, .int .i64 0]) (rlm (cs := [.int .i64 (at_ p0.Held p1.Addr.toNat), .bool true, .int .i64 0]) rfl (by kernel_rfl) (by kernel_rfl) (by kernel_rfl) ⟨(h.pick 3).cell 0 rfl, (h.pick 3).cell 1 rfl, (h.pick 3).cell 2 rfl, trivial⟩) ?_; clear hr a; intro a hr
      replace h : Fit z (sepL (pts b6 (.cells #[.int .i64 0, .bool false, .int .i64 0] 66) :: ob34 B0 S36 caq38 ccq39 caq40 ccq41 :: ro2 caq38 ccq39 S36.Held :: ro96 caq40 ccq41 S36.Book :: pts b34 (.cells #[.int .i64 (at_ p0.Held p1.Addr.toNat), .bool true, .int .i64 0] 66) :: pts b33 (.cells #[.int .i64 p0.Actor, .int .i64 p1.Kind, .int .i64 p1.Addr, .int .i64 (at_ p0.Held p1.Addr.toNat), .int .i64 0, .bool true] 96) :: ob69 b5 p1 :: L)) _ := h.sel 7 [6, 0, 1, 2, 3, 4, 5] (by kernel_rfl) (by kernel_rfl)
      refine op_stores (wn rfl) rfl hr rfl (by kernel_rfl) (by kernel_rfl) (vs := [.int .i64 (at_ p0.Held p1.Addr.toNat), .bool true, .int .i64 0]) rfl rfl (by kernel_rfl) h (i := 0) (cs' := #[.int .i64 (at_ p0.Held p1.Addr.toNat), .bool true, .int .i64 0]) rfl ?_; clear h; intro w h
      refine wpList_nil ?_
      replace h : Fit z (sepL (pts b6 (.cells #[.int .i64 (at_ p0.Held p1.Addr.toNat), .bool true, .int .i64 0] 66) :: ob34 B0 S36 caq38 ccq39 caq40 ccq41 :: ro2 caq38 ccq39 S36.Held :: ro96 caq40 ccq41 S36.Book :: pts b34 (.cells #[.int .i64 (at_ p0.Held p1.Addr.toNat), .bool true, .int .i64 0] 66) :: pts b33 (.cells #[.int .i64 p0.Actor, .int .i64 p1.Kind, .int .i64 p1.Addr, .int .i64 (at_ p0.Held p1.Addr.toNat), .int .i64 0, .bool true] 96) :: ob69 b5 p1 :: L)) _ := h
      refine then_normal ?_
      refine wp_ret ?_
      refine end_retC (cs := [.int .i64 (at_ p0.Held p1.Addr.toNat), .bool true, .int .i64 0]) rfl hr (by kernel_rfl) (by kernel_rfl) (by kernel_rfl) ⟨h.cell 0 rfl, h.cell 1 rfl, h.cell 2 rfl, trivial⟩ ?_
      replace h : Fit z (sepL (ob34 B0 S36 caq38 ccq39 caq40 ccq41 :: ro2 caq38 ccq39 S36.Held :: ro96 caq40 ccq41 S36.Book :: L)) _ := h.sel 7 [1, 2, 3] (by kernel_rfl) (by kernel_rfl)
      replace H := ej2 H; obtain ⟨rfl, rfl⟩ := H
      exact ⟨caq38, ccq39, caq40, ccq41, rfl, h⟩
    ·
      replace H := ifF c35 H
      refine cond_ff hr (b := (p1.Kind == (0 : Int))) (beq_eq_false_iff_ne.mpr c35) ?_
      refine wp_seq ?_
      refine wp_region_lit ?_
      refine ovs [91, 90] [.bool (p1.Kind == (1 : Int)), .bool (p1.Kind == (1 : Int))] hr ⟨rfl, rfl⟩ (by kernel_rfl) ?_; clear hr a; intro a hr
      refine wpList_nil ?_
      refine then_normal ?_
      by_cases c42 : p1.Kind = (1 : Int)
      ·
        replace H := ifT c42 H
        refine cond_tt hr (b := (p1.Kind == (1 : Int))) (beq_iff_eq.mpr c42) ?_
        refine wp_seq ?_
        refine wp_region_lit ?_
        refine ov hr (.pointer (some ⟨b5, 3, none⟩)) (by kernel_rfl) ?_; clear hr a; intro a hr
        refine op_val (wn rfl) rfl rfl hr (v := .int .i64 p1.A) (rl rfl (by kernel_rfl) (by kernel_rfl) ((h.pick 5).cell 3 rfl)) ?_; clear hr a; intro a hr
        refine ov hr (.pointer (some ⟨b33, 3, none⟩)) (by kernel_rfl) ?_; clear hr a; intro a hr
        replace h : Fit z (sepL (pts b33 (.cells #[.int .i64 p0.Actor, .int .i64 p1.Kind, .int .i64 p1.Addr, .int .i64 0, .int .i64 0, .bool true] 96) :: pts b34 (.cells #[.int .i64 0, .bool true, .int .i64 0] 66) :: ob34 B0 p0 ca1 cc2 ca3 cc4 :: ro2 ca1 cc2 p0.Held :: ro96 ca3 cc4 p0.Book :: ob69 b5 p1 :: pts b6 (.cells #[.int .i64 0, .bool false, .int .i64 0] 66) :: L)) _ := h.sel 7 [1, 0, 2, 3, 4, 5, 6] (by kernel_rfl) (by kernel_rfl)
        refine op_store (wn rfl) rfl hr rfl (by kernel_rfl) (by kernel_rfl) (v := .int .i64 p1.A) rfl rfl (by kernel_rfl) h (i := 3) rfl ?_; clear h; intro w h
        refine wpList_nil ?_
        replace h : Fit z (sepL (pts b33 (.cells #[.int .i64 p0.Actor, .int .i64 p1.Kind, .int .i64 p1.Addr, .int .i64 p1.A, .int .i64 0, .bool true] 96) :: pts b34 (.cells #[.int .i64 0, .bool true, .int .i64 0] 66) :: ob34 B0 p0 ca1 cc2 ca3 cc4 :: ro2 ca1 cc2 p0.Held :: ro96 ca3 cc4 p0.Book :: ob69 b5 p1 :: pts b6 (.cells #[.int .i64 0, .bool false, .int .i64 0] 66) :: L)) _ := h
        refine then_normal ?_
        refine reg_E (fun w => heldC w B0 1 [.slice ca1 p0.Held.length cc2] ∧ heldC w b5 2 [.int .i64 p1.Addr] ∧ heldC w b5 3 [.int .i64 p1.A] ∧ True) [1, 2, 4, 6] h (by kernel_rfl) ?_; intro w h
        change wpAnyE _ _ _ _ _ _ 10 (Array.replicate 10 false) a w
        have hgo : ∀ w w', CellsGo w w' → (heldC w B0 1 [.slice ca1 p0.Held.length cc2] ∧ heldC w b5 2 [.int .i64 p1.Addr] ∧ heldC w b5 3 [.int .i64 p1.A] ∧ True) → heldC w' B0 1 [.slice ca1 p0.Held.length cc2] ∧ heldC w' b5 2 [.int .i64 p1.Addr] ∧ heldC w' b5 3 [.int .i64 p1.A] ∧ True := fun w w' g hD => ⟨heldC_go _ _ _ _ _ g hD.1, heldC_go _ _ _ _ _ g hD.2.1, heldC_go _ _ _ _ _ g hD.2.2.1, trivial⟩
        refine ev 9 0 rfl (by kernel_rfl) (wn rfl) hr (.pointer (some ⟨B0, 0, none⟩)) (fun w => by kernel_rfl) ?_; clear hr a; intro a hr
        refine evD hgo ⟨⟨(h.pick 2).cell 1 rfl, trivial⟩, ⟨(h.pick 5).cell 2 rfl, trivial⟩, ⟨(h.pick 5).cell 3 rfl, trivial⟩, trivial⟩ 8 1 rfl (by kernel_rfl) (wn rfl) hr (.pointer (some ⟨B0, 0, none⟩)) (fun w => by kernel_rfl) ?_; clear hr a; intro a hr
        refine evD hgo ⟨⟨(h.pick 2).cell 1 rfl, trivial⟩, ⟨(h.pick 5).cell 2 rfl, trivial⟩, ⟨(h.pick 5).cell 3 rfl, trivial⟩, trivial⟩ 7 2 rfl (by kernel_rfl) (wn rfl) hr (.pointer (some ⟨B0, 1, none⟩)) (fun w => by kernel_rfl) ?_; clear hr a; intro a hr
        refine evD hgo ⟨⟨(h.pick 2).cell 1 rfl, trivial⟩, ⟨(h.pick 5).cell 2 rfl, trivial⟩, ⟨(h.pick 5).cell 3 rfl, trivial⟩, trivial⟩ 6 4 rfl (by kernel_rfl) (wn rfl) hr (.pointer (some ⟨b5, 2, none⟩)) (fun w => by kernel_rfl) ?_; clear hr a; intro a hr
        refine evD hgo ⟨⟨(h.pick 2).cell 1 rfl, trivial⟩, ⟨(h.pick 5).cell 2 rfl, trivial⟩, ⟨(h.pick 5).cell 3 rfl, trivial⟩, trivial⟩ 5 6 rfl (by kernel_rfl) (wn rfl) hr (.pointer (some ⟨b5, 3, none⟩)) (fun w => by kernel_rfl) ?_; clear hr a; intro a hr
        refine el [1, 2, 4, 6] (b := B0) (off := 1) (cs := [.slice ca1 p0.Held.length cc2]) (fun _ hk => ⟨hk, fun w hD => hD.1⟩) 4 3 rfl (by kernel_rfl) (wn rfl) hr (.slice ca1 p0.Held.length cc2) ⟨(h.pick 2).cell 1 rfl, trivial⟩ (fun w hc => rl rfl (by kernel_rfl) (by kernel_rfl) hc.1) ?_; clear hr a; intro a hr
        refine el [1, 2, 4, 6] (b := b5) (off := 2) (cs := [.int .i64 p1.Addr]) (fun _ hk => ⟨hk, fun w hD => hD.2.1⟩) 3 5 rfl (by kernel_rfl) (wn rfl) hr (.int .i64 p1.Addr) ⟨(h.pick 5).cell 2 rfl, trivial⟩ (fun w hc => rl rfl (by kernel_rfl) (by kernel_rfl) hc.1) ?_; clear hr a; intro a hr
        refine el [1, 2, 4, 6] (b := b5) (off := 3) (cs := [.int .i64 p1.A]) (fun _ hk => ⟨hk, fun w hD => hD.2.2.1⟩) 2 7 rfl (by kernel_rfl) (wn rfl) hr (.int .i64 p1.A) ⟨(h.pick 5).cell 3 rfl, trivial⟩ (fun w hc => rl rfl (by kernel_rfl) (by kernel_rfl) hc.1) ?_; clear hr a; intro a hr
        refine ev 1 8 rfl (by kernel_rfl) (wn rfl) hr (.pointer (some ⟨blk ca1, p1.Addr.toNat * 1, none⟩)) (fun w => ri_row (k := .i64) (E := 2) rfl (by kernel_rfl) (by kernel_rfl) (by kernel_rfl) (by kernel_rfl) (h.pick 3) c32) ?_; clear hr a; intro a hr
        refine e_one (fuel := 0) (i := 9) (by kernel_rfl) rfl ?_
        replace h : Fit z (sepL (ro2 ca1 cc2 p0.Held :: pts b33 (.cells #[.int .i64 p0.Actor, .int .i64 p1.Kind, .int .i64 p1.Addr, .int .i64 p1.A, .int .i64 0, .bool true] 96) :: pts b34 (.cells #[.int .i64 0, .bool true, .int .i64 0] 66) :: ob34 B0 p0 ca1 cc2 ca3 cc4 :: ro96 ca3 cc4 p0.Book :: ob69 b5 p1 :: pts b6 (.cells #[.int .i64 0, .bool false, .int .i64 0] 66) :: L)) _ := h.sel 7 [3, 0, 1, 2, 4, 5, 6] (by kernel_rfl) (by kernel_rfl)
        refine op_store_row (wn rfl) rfl hr rfl (by kernel_rfl) (by kernel_rfl) (v := .int .i64 p1.A) rfl rfl (by kernel_rfl) encZ_i64_ok h (i := p1.Addr.toNat) (f := 0) (p := (at_ p0.Held p1.Addr.toNat)) (q := p1.A) (at_ok c32) (by decide) rfl ?_; clear h; intro w h
        replace h : Fit z (sepL (rowOf 2 1 encZ_i64 (.slice ca1 p0.Held.length cc2) (p0.Held.set p1.Addr.toNat p1.A) :: pts b33 (.cells #[.int .i64 p0.Actor, .int .i64 p1.Kind, .int .i64 p1.Addr, .int .i64 p1.A, .int .i64 0, .bool true] 96) :: pts b34 (.cells #[.int .i64 0, .bool true, .int .i64 0] 66) :: ob34 B0 p0 ca1 cc2 ca3 cc4 :: ro96 ca3 cc4 p0.Book :: ob69 b5 p1 :: pts b6 (.cells #[.int .i64 0, .bool false, .int .i64 0] 66) :: L)) _ := h
        refine wpList_nil ?_; refine then_normal ?_
        refine ⟨fun hE => absurd hE (by decide), ?_⟩
        refine e_end (by kernel_rfl) ?_
        refine blk_normal ?_
        refine then_normal ?_
        refine wp_seq ?_
        refine wp_region_lit ?_
        refine ov hr (.pointer (some ⟨B0, 0, none⟩)) (by kernel_rfl) ?_; clear hr a; intro a hr
        refine op_val (wn rfl) rfl rfl hr (v := .agg #[.int .i64 p0.Actor, .int .i64 p1.Kind, .int .i64 p1.Addr, .int .i64 p1.A, .int .i64 0, .bool true]) (rlm (cs := [.int .i64 p0.Actor, .int .i64 p1.Kind, .int .i64 p1.Addr, .int .i64 p1.A, .int .i64 0, .bool true]) rfl (by kernel_rfl) (by kernel_rfl) (by kernel_rfl) ⟨(h.pick 1).cell 0 rfl, (h.pick 1).cell 1 rfl, (h.pick 1).cell 2 rfl, (h.pick 1).cell 3 rfl, (h.pick 1).cell 4 rfl, (h.pick 1).cell 5 rfl, trivial⟩) ?_; clear hr a; intro a hr
        have hn42 := h.row_n
        replace h : Fit z (sepL (ro2 ca1 cc2 (p0.Held.set p1.Addr.toNat p1.A) :: pts b33 (.cells #[.int .i64 p0.Actor, .int .i64 p1.Kind, .int .i64 p1.Addr, .int .i64 p1.A, .int .i64 0, .bool true] 96) :: pts b34 (.cells #[.int .i64 0, .bool true, .int .i64 0] 66) :: pts B0 (.cells #[.int .i64 p0.Most, .slice ca1 ((p0.Held.set p1.Addr.toNat p1.A).length) cc2, .bool p0.On, .int .i64 p0.Actor, .slice ca3 p0.Book.length cc4] 34) :: ro96 ca3 cc4 p0.Book :: ob69 b5 p1 :: pts b6 (.cells #[.int .i64 0, .bool false, .int .i64 0] 66) :: L)) w := (congrArg (fun q_ : Nat => Fit z (sepL (rowOf 2 1 encZ_i64 (.slice ca1 q_ cc2) (p0.Held.set p1.Addr.toNat p1.A) :: pts b33 (.cells #[.int .i64 p0.Actor, .int .i64 p1.Kind, .int .i64 p1.Addr, .int .i64 p1.A, .int .i64 0, .bool true] 96) :: pts b34 (.cells #[.int .i64 0, .bool true, .int .i64 0] 66) :: pts B0 (.cells #[.int .i64 p0.Most, .slice ca1 q_ cc2, .bool p0.On, .int .i64 p0.Actor, .slice ca3 p0.Book.length cc4] 34) :: ro96 ca3 cc4 p0.Book :: ob69 b5 p1 :: pts b6 (.cells #[.int .i64 0, .bool false, .int .i64 0] 66) :: L)) w) h.row_n).mp h
        replace H := bd1 H; obtain ⟨S44, e45, H⟩ := H
        replace h : Fit z (sepL (pts B0 (.cells #[.int .i64 p0.Most, .slice ca1 ((p0.Held.set p1.Addr.toNat p1.A).length) cc2, .bool p0.On, .int .i64 p0.Actor, .slice ca3 p0.Book.length cc4] 34) :: ro2 ca1 cc2 (p0.Held.set p1.Addr.toNat p1.A) :: ro96 ca3 cc4 p0.Book :: pts b33 (.cells #[.int .i64 p0.Actor, .int .i64 p1.Kind, .int .i64 p1.Addr, .int .i64 p1.A, .int .i64 0, .bool true] 96) :: pts b34 (.cells #[.int .i64 0, .bool true, .int .i64 0] 66) :: ob69 b5 p1 :: pts b6 (.cells #[.int .i64 0, .bool false, .int .i64 0] 66) :: L)) _ := h.sel 7 [3, 0, 4, 1, 2, 5, 6] (by kernel_rfl) (by kernel_rfl)
        have hc := plunderref2_Arena_note_ok (H := e45) (h := h)
        refine op_call (wn rfl) rfl rfl hr (f := 60) (args := #[.pointer (some ⟨B0, 0, none⟩), .agg #[.int .i64 p0.Actor, .int .i64 p1.Kind, .int .i64 p1.Addr, .int .i64 p1.A, .int .i64 0, .bool true]]) (by kernel_rfl) hc ?_; clear hc h
        rintro _ w ⟨caq46, ccq47, caq48, ccq49, rfl, h⟩; refine ⟨_, rfl, ?_⟩
        clear hr a; intro a hr
        refine wpList_nil ?_
        refine then_normal ?_
        refine wp_seq ?_
        refine wp_region_lit ?_
        refine op_val (wn rfl) rfl rfl hr (v := .agg #[.int .i64 0, .bool true, .int .i64 0]) (rlm (cs := [.int .i64 0, .bool true, .int .i64 0]) rfl (by kernel_rfl) (by kernel_rfl) (by kernel_rfl) ⟨(h.pick 4).cell 0 rfl, (h.pick 4).cell 1 rfl, (h.pick 4).cell 2 rfl, trivial⟩) ?_; clear hr a; intro a hr
        replace h : Fit z (sepL (pts b6 (.cells #[.int .i64 0, .bool false, .int .i64 0] 66) :: ob34 B0 S44 caq46 ccq47 caq48 ccq49 :: ro2 caq46 ccq47 S44.Held :: ro96 caq48 ccq49 S44.Book :: pts b33 (.cells #[.int .i64 p0.Actor, .int .i64 p1.Kind, .int .i64 p1.Addr, .int .i64 p1.A, .int .i64 0, .bool true] 96) :: pts b34 (.cells #[.int .i64 0, .bool true, .int .i64 0] 66) :: ob69 b5 p1 :: L)) _ := h.sel 7 [6, 0, 1, 2, 3, 4, 5] (by kernel_rfl) (by kernel_rfl)
        refine op_stores (wn rfl) rfl hr rfl (by kernel_rfl) (by kernel_rfl) (vs := [.int .i64 0, .bool true, .int .i64 0]) rfl rfl (by kernel_rfl) h (i := 0) (cs' := #[.int .i64 0, .bool true, .int .i64 0]) rfl ?_; clear h; intro w h
        refine wpList_nil ?_
        replace h : Fit z (sepL (pts b6 (.cells #[.int .i64 0, .bool true, .int .i64 0] 66) :: ob34 B0 S44 caq46 ccq47 caq48 ccq49 :: ro2 caq46 ccq47 S44.Held :: ro96 caq48 ccq49 S44.Book :: pts b33 (.cells #[.int .i64 p0.Actor, .int .i64 p1.Kind, .int .i64 p1.Addr, .int .i64 p1.A, .int .i64 0, .bool true] 96) :: pts b34 (.cells #[.int .i64 0, .bool true, .int .i64 0] 66) :: ob69 b5 p1 :: L)) _ := h
        refine then_normal ?_
        refine wp_ret ?_
        refine end_retC (cs := [.int .i64 0, .bool true, .int .i64 0]) rfl hr (by kernel_rfl) (by kernel_rfl) (by kernel_rfl) ⟨h.cell 0 rfl, h.cell 1 rfl, h.cell 2 rfl, trivial⟩ ?_
        replace h : Fit z (sepL (ob34 B0 S44 caq46 ccq47 caq48 ccq49 :: ro2 caq46 ccq47 S44.Held :: ro96 caq48 ccq49 S44.Book :: L)) _ := h.sel 7 [1, 2, 3] (by kernel_rfl) (by kernel_rfl)
        replace H := ej2 H; obtain ⟨rfl, rfl⟩ := H
        exact ⟨caq46, ccq47, caq48, ccq49, rfl, h⟩
      ·
        replace H := ifF c42 H
        refine cond_ff hr (b := (p1.Kind == (1 : Int))) (beq_eq_false_iff_ne.mpr c42) ?_
        refine wp_seq ?_
        refine wp_region_lit ?_
        refine ovs [105, 104] [.bool (p1.Kind == (2 : Int)), .bool (p1.Kind == (2 : Int))] hr ⟨rfl, rfl⟩ (by kernel_rfl) ?_; clear hr a; intro a hr
        refine wpList_nil ?_
        refine then_normal ?_
        by_cases c50 : p1.Kind = (2 : Int)
        ·
          replace H := ifT c50 H
          refine cond_tt hr (b := (p1.Kind == (2 : Int))) (beq_iff_eq.mpr c50) ?_
          refine wp_seq ?_
          refine wp_region_lit ?_
          refine ov hr (.pointer (some ⟨b5, 3, none⟩)) (by kernel_rfl) ?_; clear hr a; intro a hr
          refine op_val (wn rfl) rfl rfl hr (v := .int .i64 p1.A) (rl rfl (by kernel_rfl) (by kernel_rfl) ((h.pick 5).cell 3 rfl)) ?_; clear hr a; intro a hr
          refine ov hr (.pointer (some ⟨b33, 3, none⟩)) (by kernel_rfl) ?_; clear hr a; intro a hr
          replace h : Fit z (sepL (pts b33 (.cells #[.int .i64 p0.Actor, .int .i64 p1.Kind, .int .i64 p1.Addr, .int .i64 0, .int .i64 0, .bool true] 96) :: pts b34 (.cells #[.int .i64 0, .bool true, .int .i64 0] 66) :: ob34 B0 p0 ca1 cc2 ca3 cc4 :: ro2 ca1 cc2 p0.Held :: ro96 ca3 cc4 p0.Book :: ob69 b5 p1 :: pts b6 (.cells #[.int .i64 0, .bool false, .int .i64 0] 66) :: L)) _ := h.sel 7 [1, 0, 2, 3, 4, 5, 6] (by kernel_rfl) (by kernel_rfl)
          refine op_store (wn rfl) rfl hr rfl (by kernel_rfl) (by kernel_rfl) (v := .int .i64 p1.A) rfl rfl (by kernel_rfl) h (i := 3) rfl ?_; clear h; intro w h
          refine wpList_nil ?_
          replace h : Fit z (sepL (pts b33 (.cells #[.int .i64 p0.Actor, .int .i64 p1.Kind, .int .i64 p1.Addr, .int .i64 p1.A, .int .i64 0, .bool true] 96) :: pts b34 (.cells #[.int .i64 0, .bool true, .int .i64 0] 66) :: ob34 B0 p0 ca1 cc2 ca3 cc4 :: ro2 ca1 cc2 p0.Held :: ro96 ca3 cc4 p0.Book :: ob69 b5 p1 :: pts b6 (.cells #[.int .i64 0, .bool false, .int .i64 0] 66) :: L)) _ := h
          refine then_normal ?_
          refine wp_seq ?_
          refine wp_region_lit ?_
          refine ov hr (.pointer (some ⟨b5, 4, none⟩)) (by kernel_rfl) ?_; clear hr a; intro a hr
          refine op_val (wn rfl) rfl rfl hr (v := .int .i64 p1.B) (rl rfl (by kernel_rfl) (by kernel_rfl) ((h.pick 5).cell 4 rfl)) ?_; clear hr a; intro a hr
          refine ov hr (.pointer (some ⟨b33, 4, none⟩)) (by kernel_rfl) ?_; clear hr a; intro a hr
          refine op_store (wn rfl) rfl hr rfl (by kernel_rfl) (by kernel_rfl) (v := .int .i64 p1.B) rfl rfl (by kernel_rfl) h (i := 4) rfl ?_; clear h; intro w h
          refine wpList_nil ?_
          replace h : Fit z (sepL (pts b33 (.cells #[.int .i64 p0.Actor, .int .i64 p1.Kind, .int .i64 p1.Addr, .int .i64 p1.A, .int .i64 p1.B, .bool true] 96) :: pts b34 (.cells #[.int .i64 0, .bool true, .int .i64 0] 66) :: ob34 B0 p0 ca1 cc2 ca3 cc4 :: ro2 ca1 cc2 p0.Held :: ro96 ca3 cc4 p0.Book :: ob69 b5 p1 :: pts b6 (.cells #[.int .i64 0, .bool false, .int .i64 0] 66) :: L)) _ := h
          refine then_normal ?_
          refine wp_seq ?_
          refine wp_region_lit ?_
          refine ovs [112, 113] [.int .i64 (at_ p0.Held p1.Addr.toNat), .pointer (some ⟨b5, 3, none⟩)] hr ⟨rfl, rfl⟩ (by kernel_rfl) ?_; clear hr a; intro a hr
          refine op_val (wn rfl) rfl rfl hr (v := .int .i64 p1.A) (rl rfl (by kernel_rfl) (by kernel_rfl) ((h.pick 5).cell 3 rfl)) ?_; clear hr a; intro a hr
          refine ovs [115, 116] [.bool ((at_ p0.Held p1.Addr.toNat) == p1.A), .pointer (some ⟨b33, 5, none⟩)] hr ⟨rfl, rfl⟩ (by kernel_rfl) ?_; clear hr a; intro a hr
          refine op_store (wn rfl) rfl hr rfl (by kernel_rfl) (by kernel_rfl) (v := .bool ((at_ p0.Held p1.Addr.toNat) == p1.A)) rfl rfl (by kernel_rfl) h (i := 5) rfl ?_; clear h; intro w h
          refine wpList_nil ?_
          replace h : Fit z (sepL (pts b33 (.cells #[.int .i64 p0.Actor, .int .i64 p1.Kind, .int .i64 p1.Addr, .int .i64 p1.A, .int .i64 p1.B, .bool ((at_ p0.Held p1.Addr.toNat) == p1.A)] 96) :: pts b34 (.cells #[.int .i64 0, .bool true, .int .i64 0] 66) :: ob34 B0 p0 ca1 cc2 ca3 cc4 :: ro2 ca1 cc2 p0.Held :: ro96 ca3 cc4 p0.Book :: ob69 b5 p1 :: pts b6 (.cells #[.int .i64 0, .bool false, .int .i64 0] 66) :: L)) _ := h
          refine then_normal ?_
          refine wp_seq ?_
          refine wp_region_lit ?_
          refine ovs [117, 118] [.int .i64 (at_ p0.Held p1.Addr.toNat), .pointer (some ⟨b5, 3, none⟩)] hr ⟨rfl, rfl⟩ (by kernel_rfl) ?_; clear hr a; intro a hr
          refine op_val (wn rfl) rfl rfl hr (v := .int .i64 p1.A) (rl rfl (by kernel_rfl) (by kernel_rfl) ((h.pick 5).cell 3 rfl)) ?_; clear hr a; intro a hr
          refine ovs [120, 121] [.bool ((at_ p0.Held p1.Addr.toNat) == p1.A), .pointer (some ⟨b34, 1, none⟩)] hr ⟨rfl, rfl⟩ (by kernel_rfl) ?_; clear hr a; intro a hr
          replace h : Fit z (sepL (pts b34 (.cells #[.int .i64 0, .bool true, .int .i64 0] 66) :: pts b33 (.cells #[.int .i64 p0.Actor, .int .i64 p1.Kind, .int .i64 p1.Addr, .int .i64 p1.A, .int .i64 p1.B, .bool ((at_ p0.Held p1.Addr.toNat) == p1.A)] 96) :: ob34 B0 p0 ca1 cc2 ca3 cc4 :: ro2 ca1 cc2 p0.Held :: ro96 ca3 cc4 p0.Book :: ob69 b5 p1 :: pts b6 (.cells #[.int .i64 0, .bool false, .int .i64 0] 66) :: L)) _ := h.sel 7 [1, 0, 2, 3, 4, 5, 6] (by kernel_rfl) (by kernel_rfl)
          refine op_store (wn rfl) rfl hr rfl (by kernel_rfl) (by kernel_rfl) (v := .bool ((at_ p0.Held p1.Addr.toNat) == p1.A)) rfl rfl (by kernel_rfl) h (i := 1) rfl ?_; clear h; intro w h
          refine wpList_nil ?_
          replace h : Fit z (sepL (pts b34 (.cells #[.int .i64 0, .bool ((at_ p0.Held p1.Addr.toNat) == p1.A), .int .i64 0] 66) :: pts b33 (.cells #[.int .i64 p0.Actor, .int .i64 p1.Kind, .int .i64 p1.Addr, .int .i64 p1.A, .int .i64 p1.B, .bool ((at_ p0.Held p1.Addr.toNat) == p1.A)] 96) :: ob34 B0 p0 ca1 cc2 ca3 cc4 :: ro2 ca1 cc2 p0.Held :: ro96 ca3 cc4 p0.Book :: ob69 b5 p1 :: pts b6 (.cells #[.int .i64 0, .bool false, .int .i64 0] 66) :: L)) _ := h
          refine then_normal ?_
          refine wp_seq ?_
          refine wp_region_lit ?_
          refine ovs [122, 123] [.int .i64 (at_ p0.Held p1.Addr.toNat), .pointer (some ⟨b5, 3, none⟩)] hr ⟨rfl, rfl⟩ (by kernel_rfl) ?_; clear hr a; intro a hr
          refine op_val (wn rfl) rfl rfl hr (v := .int .i64 p1.A) (rl rfl (by kernel_rfl) (by kernel_rfl) ((h.pick 5).cell 3 rfl)) ?_; clear hr a; intro a hr
          refine ov hr (.bool ((at_ p0.Held p1.Addr.toNat) == p1.A)) (by kernel_rfl) ?_; clear hr a; intro a hr
          refine wpList_nil ?_
          refine then_normal ?_
          by_cases c51 : (at_ p0.Held p1.Addr.toNat) = p1.A
          ·
            replace H := ifT c51 H
            refine cond_tt hr (b := ((at_ p0.Held p1.Addr.toNat) == p1.A)) (beq_iff_eq.mpr c51) ?_
            refine reg_E (fun w => heldC w B0 1 [.slice ca1 p0.Held.length cc2] ∧ heldC w b5 2 [.int .i64 p1.Addr] ∧ heldC w b5 4 [.int .i64 p1.B] ∧ True) [1, 2, 4, 6] h (by kernel_rfl) ?_; intro w h
            change wpAnyE _ _ _ _ _ _ 10 (Array.replicate 10 false) a w
            have hgo : ∀ w w', CellsGo w w' → (heldC w B0 1 [.slice ca1 p0.Held.length cc2] ∧ heldC w b5 2 [.int .i64 p1.Addr] ∧ heldC w b5 4 [.int .i64 p1.B] ∧ True) → heldC w' B0 1 [.slice ca1 p0.Held.length cc2] ∧ heldC w' b5 2 [.int .i64 p1.Addr] ∧ heldC w' b5 4 [.int .i64 p1.B] ∧ True := fun w w' g hD => ⟨heldC_go _ _ _ _ _ g hD.1, heldC_go _ _ _ _ _ g hD.2.1, heldC_go _ _ _ _ _ g hD.2.2.1, trivial⟩
            refine ev 9 0 rfl (by kernel_rfl) (wn rfl) hr (.pointer (some ⟨B0, 0, none⟩)) (fun w => by kernel_rfl) ?_; clear hr a; intro a hr
            refine evD hgo ⟨⟨(h.pick 2).cell 1 rfl, trivial⟩, ⟨(h.pick 5).cell 2 rfl, trivial⟩, ⟨(h.pick 5).cell 4 rfl, trivial⟩, trivial⟩ 8 1 rfl (by kernel_rfl) (wn rfl) hr (.pointer (some ⟨B0, 0, none⟩)) (fun w => by kernel_rfl) ?_; clear hr a; intro a hr
            refine evD hgo ⟨⟨(h.pick 2).cell 1 rfl, trivial⟩, ⟨(h.pick 5).cell 2 rfl, trivial⟩, ⟨(h.pick 5).cell 4 rfl, trivial⟩, trivial⟩ 7 2 rfl (by kernel_rfl) (wn rfl) hr (.pointer (some ⟨B0, 1, none⟩)) (fun w => by kernel_rfl) ?_; clear hr a; intro a hr
            refine evD hgo ⟨⟨(h.pick 2).cell 1 rfl, trivial⟩, ⟨(h.pick 5).cell 2 rfl, trivial⟩, ⟨(h.pick 5).cell 4 rfl, trivial⟩, trivial⟩ 6 4 rfl (by kernel_rfl) (wn rfl) hr (.pointer (some ⟨b5, 2, none⟩)) (fun w => by kernel_rfl) ?_; clear hr a; intro a hr
            refine evD hgo ⟨⟨(h.pick 2).cell 1 rfl, trivial⟩, ⟨(h.pick 5).cell 2 rfl, trivial⟩, ⟨(h.pick 5).cell 4 rfl, trivial⟩, trivial⟩ 5 6 rfl (by kernel_rfl) (wn rfl) hr (.pointer (some ⟨b5, 4, none⟩)) (fun w => by kernel_rfl) ?_; clear hr a; intro a hr
            refine el [1, 2, 4, 6] (b := B0) (off := 1) (cs := [.slice ca1 p0.Held.length cc2]) (fun _ hk => ⟨hk, fun w hD => hD.1⟩) 4 3 rfl (by kernel_rfl) (wn rfl) hr (.slice ca1 p0.Held.length cc2) ⟨(h.pick 2).cell 1 rfl, trivial⟩ (fun w hc => rl rfl (by kernel_rfl) (by kernel_rfl) hc.1) ?_; clear hr a; intro a hr
            refine el [1, 2, 4, 6] (b := b5) (off := 2) (cs := [.int .i64 p1.Addr]) (fun _ hk => ⟨hk, fun w hD => hD.2.1⟩) 3 5 rfl (by kernel_rfl) (wn rfl) hr (.int .i64 p1.Addr) ⟨(h.pick 5).cell 2 rfl, trivial⟩ (fun w hc => rl rfl (by kernel_rfl) (by kernel_rfl) hc.1) ?_; clear hr a; intro a hr
            refine el [1, 2, 4, 6] (b := b5) (off := 4) (cs := [.int .i64 p1.B]) (fun _ hk => ⟨hk, fun w hD => hD.2.2.1⟩) 2 7 rfl (by kernel_rfl) (wn rfl) hr (.int .i64 p1.B) ⟨(h.pick 5).cell 4 rfl, trivial⟩ (fun w hc => rl rfl (by kernel_rfl) (by kernel_rfl) hc.1) ?_; clear hr a; intro a hr
            refine ev 1 8 rfl (by kernel_rfl) (wn rfl) hr (.pointer (some ⟨blk ca1, p1.Addr.toNat * 1, none⟩)) (fun w => ri_row (k := .i64) (E := 2) rfl (by kernel_rfl) (by kernel_rfl) (by kernel_rfl) (by kernel_rfl) (h.pick 3) c32) ?_; clear hr a; intro a hr
            refine e_one (fuel := 0) (i := 9) (by kernel_rfl) rfl ?_
            replace h : Fit z (sepL (ro2 ca1 cc2 p0.Held :: pts b34 (.cells #[.int .i64 0, .bool ((at_ p0.Held p1.Addr.toNat) == p1.A), .int .i64 0] 66) :: pts b33 (.cells #[.int .i64 p0.Actor, .int .i64 p1.Kind, .int .i64 p1.Addr, .int .i64 p1.A, .int .i64 p1.B, .bool ((at_ p0.Held p1.Addr.toNat) == p1.A)] 96) :: ob34 B0 p0 ca1 cc2 ca3 cc4 :: ro96 ca3 cc4 p0.Book :: ob69 b5 p1 :: pts b6 (.cells #[.int .i64 0, .bool false, .int .i64 0] 66) :: L)) _ := h.sel 7 [3, 0, 1, 2, 4, 5, 6] (by kernel_rfl) (by kernel_rfl)
            refine op_store_row (wn rfl) rfl hr rfl (by kernel_rfl) (by kernel_rfl) (v := .int .i64 p1.B) rfl rfl (by kernel_rfl) encZ_i64_ok h (i := p1.Addr.toNat) (f := 0) (p := (at_ p0.Held p1.Addr.toNat)) (q := p1.B) (at_ok c32) (by decide) rfl ?_; clear h; intro w h
            replace h : Fit z (sepL (rowOf 2 1 encZ_i64 (.slice ca1 p0.Held.length cc2) (p0.Held.set p1.Addr.toNat p1.B) :: pts b34 (.cells #[.int .i64 0, .bool ((at_ p0.Held p1.Addr.toNat) == p1.A), .int .i64 0] 66) :: pts b33 (.cells #[.int .i64 p0.Actor, .int .i64 p1.Kind, .int .i64 p1.Addr, .int .i64 p1.A, .int .i64 p1.B, .bool ((at_ p0.Held p1.Addr.toNat) == p1.A)] 96) :: ob34 B0 p0 ca1 cc2 ca3 cc4 :: ro96 ca3 cc4 p0.Book :: ob69 b5 p1 :: pts b6 (.cells #[.int .i64 0, .bool false, .int .i64 0] 66) :: L)) _ := h
            refine wpList_nil ?_; refine then_normal ?_
            refine ⟨fun hE => absurd hE (by decide), ?_⟩
            refine e_end (by kernel_rfl) ?_
            refine blk_normal ?_
            refine then_normal ?_
            refine wp_seq ?_
            refine wp_region_lit ?_
            refine ov hr (.pointer (some ⟨B0, 0, none⟩)) (by kernel_rfl) ?_; clear hr a; intro a hr
            refine op_val (wn rfl) rfl rfl hr (v := .agg #[.int .i64 p0.Actor, .int .i64 p1.Kind, .int .i64 p1.Addr, .int .i64 p1.A, .int .i64 p1.B, .bool ((at_ p0.Held p1.Addr.toNat) == p1.A)]) (rlm (cs := [.int .i64 p0.Actor, .int .i64 p1.Kind, .int .i64 p1.Addr, .int .i64 p1.A, .int .i64 p1.B, .bool ((at_ p0.Held p1.Addr.toNat) == p1.A)]) rfl (by kernel_rfl) (by kernel_rfl) (by kernel_rfl) ⟨(h.pick 2).cell 0 rfl, (h.pick 2).cell 1 rfl, (h.pick 2).cell 2 rfl, (h.pick 2).cell 3 rfl, (h.pick 2).cell 4 rfl, (h.pick 2).cell 5 rfl, trivial⟩) ?_; clear hr a; intro a hr
            have hn51 := h.row_n
            replace h : Fit z (sepL (ro2 ca1 cc2 (p0.Held.set p1.Addr.toNat p1.B) :: pts b34 (.cells #[.int .i64 0, .bool ((at_ p0.Held p1.Addr.toNat) == p1.A), .int .i64 0] 66) :: pts b33 (.cells #[.int .i64 p0.Actor, .int .i64 p1.Kind, .int .i64 p1.Addr, .int .i64 p1.A, .int .i64 p1.B, .bool ((at_ p0.Held p1.Addr.toNat) == p1.A)] 96) :: pts B0 (.cells #[.int .i64 p0.Most, .slice ca1 ((p0.Held.set p1.Addr.toNat p1.B).length) cc2, .bool p0.On, .int .i64 p0.Actor, .slice ca3 p0.Book.length cc4] 34) :: ro96 ca3 cc4 p0.Book :: ob69 b5 p1 :: pts b6 (.cells #[.int .i64 0, .bool false, .int .i64 0] 66) :: L)) w := (congrArg (fun q_ : Nat => Fit z (sepL (rowOf 2 1 encZ_i64 (.slice ca1 q_ cc2) (p0.Held.set p1.Addr.toNat p1.B) :: pts b34 (.cells #[.int .i64 0, .bool ((at_ p0.Held p1.Addr.toNat) == p1.A), .int .i64 0] 66) :: pts b33 (.cells #[.int .i64 p0.Actor, .int .i64 p1.Kind, .int .i64 p1.Addr, .int .i64 p1.A, .int .i64 p1.B, .bool ((at_ p0.Held p1.Addr.toNat) == p1.A)] 96) :: pts B0 (.cells #[.int .i64 p0.Most, .slice ca1 q_ cc2, .bool p0.On, .int .i64 p0.Actor, .slice ca3 p0.Book.length cc4] 34) :: ro96 ca3 cc4 p0.Book :: ob69 b5 p1 :: pts b6 (.cells #[.int .i64 0, .bool false, .int .i64 0] 66) :: L)) w) h.row_n).mp h
            replace H := bd1 H; obtain ⟨S53, e54, H⟩ := H
            replace h : Fit z (sepL (pts B0 (.cells #[.int .i64 p0.Most, .slice ca1 ((p0.Held.set p1.Addr.toNat p1.B).length) cc2, .bool p0.On, .int .i64 p0.Actor, .slice ca3 p0.Book.length cc4] 34) :: ro2 ca1 cc2 (p0.Held.set p1.Addr.toNat p1.B) :: ro96 ca3 cc4 p0.Book :: pts b34 (.cells #[.int .i64 0, .bool ((at_ p0.Held p1.Addr.toNat) == p1.A), .int .i64 0] 66) :: pts b33 (.cells #[.int .i64 p0.Actor, .int .i64 p1.Kind, .int .i64 p1.Addr, .int .i64 p1.A, .int .i64 p1.B, .bool ((at_ p0.Held p1.Addr.toNat) == p1.A)] 96) :: ob69 b5 p1 :: pts b6 (.cells #[.int .i64 0, .bool false, .int .i64 0] 66) :: L)) _ := h.sel 7 [3, 0, 4, 1, 2, 5, 6] (by kernel_rfl) (by kernel_rfl)
            have hc := plunderref2_Arena_note_ok (H := e54) (h := h)
            refine op_call (wn rfl) rfl rfl hr (f := 60) (args := #[.pointer (some ⟨B0, 0, none⟩), .agg #[.int .i64 p0.Actor, .int .i64 p1.Kind, .int .i64 p1.Addr, .int .i64 p1.A, .int .i64 p1.B, .bool ((at_ p0.Held p1.Addr.toNat) == p1.A)]]) (by kernel_rfl) hc ?_; clear hc h
            rintro _ w ⟨caq55, ccq56, caq57, ccq58, rfl, h⟩; refine ⟨_, rfl, ?_⟩
            clear hr a; intro a hr
            refine wpList_nil ?_
            refine then_normal ?_
            refine wp_seq ?_
            refine wp_region_lit ?_
            refine op_val (wn rfl) rfl rfl hr (v := .agg #[.int .i64 0, .bool ((at_ p0.Held p1.Addr.toNat) == p1.A), .int .i64 0]) (rlm (cs := [.int .i64 0, .bool ((at_ p0.Held p1.Addr.toNat) == p1.A), .int .i64 0]) rfl (by kernel_rfl) (by kernel_rfl) (by kernel_rfl) ⟨(h.pick 3).cell 0 rfl, (h.pick 3).cell 1 rfl, (h.pick 3).cell 2 rfl, trivial⟩) ?_; clear hr a; intro a hr
            replace h : Fit z (sepL (pts b6 (.cells #[.int .i64 0, .bool false, .int .i64 0] 66) :: ob34 B0 S53 caq55 ccq56 caq57 ccq58 :: ro2 caq55 ccq56 S53.Held :: ro96 caq57 ccq58 S53.Book :: pts b34 (.cells #[.int .i64 0, .bool ((at_ p0.Held p1.Addr.toNat) == p1.A), .int .i64 0] 66) :: pts b33 (.cells #[.int .i64 p0.Actor, .int .i64 p1.Kind, .int .i64 p1.Addr, .int .i64 p1.A, .int .i64 p1.B, .bool ((at_ p0.Held p1.Addr.toNat) == p1.A)] 96) :: ob69 b5 p1 :: L)) _ := h.sel 7 [6, 0, 1, 2, 3, 4, 5] (by kernel_rfl) (by kernel_rfl)
            refine op_stores (wn rfl) rfl hr rfl (by kernel_rfl) (by kernel_rfl) (vs := [.int .i64 0, .bool ((at_ p0.Held p1.Addr.toNat) == p1.A), .int .i64 0]) rfl rfl (by kernel_rfl) h (i := 0) (cs' := #[.int .i64 0, .bool ((at_ p0.Held p1.Addr.toNat) == p1.A), .int .i64 0]) rfl ?_; clear h; intro w h
            refine wpList_nil ?_
            replace h : Fit z (sepL (pts b6 (.cells #[.int .i64 0, .bool ((at_ p0.Held p1.Addr.toNat) == p1.A), .int .i64 0] 66) :: ob34 B0 S53 caq55 ccq56 caq57 ccq58 :: ro2 caq55 ccq56 S53.Held :: ro96 caq57 ccq58 S53.Book :: pts b34 (.cells #[.int .i64 0, .bool ((at_ p0.Held p1.Addr.toNat) == p1.A), .int .i64 0] 66) :: pts b33 (.cells #[.int .i64 p0.Actor, .int .i64 p1.Kind, .int .i64 p1.Addr, .int .i64 p1.A, .int .i64 p1.B, .bool ((at_ p0.Held p1.Addr.toNat) == p1.A)] 96) :: ob69 b5 p1 :: L)) _ := h
            refine then_normal ?_
            refine wp_ret ?_
            refine end_retC (cs := [.int .i64 0, .bool ((at_ p0.Held p1.Addr.toNat) == p1.A), .int .i64 0]) rfl hr (by kernel_rfl) (by kernel_rfl) (by kernel_rfl) ⟨h.cell 0 rfl, h.cell 1 rfl, h.cell 2 rfl, trivial⟩ ?_
            replace h : Fit z (sepL (ob34 B0 S53 caq55 ccq56 caq57 ccq58 :: ro2 caq55 ccq56 S53.Held :: ro96 caq57 ccq58 S53.Book :: L)) _ := h.sel 7 [1, 2, 3] (by kernel_rfl) (by kernel_rfl)
            replace H := ej2 H; obtain ⟨rfl, rfl⟩ := H
            exact ⟨caq55, ccq56, caq57, ccq58, rfl, h⟩
          ·
            replace H := ifF c51 H
            refine cond_ff hr (b := ((at_ p0.Held p1.Addr.toNat) == p1.A)) (beq_eq_false_iff_ne.mpr c51) ?_
            refine wp_skip ?_
            refine blk_normal ?_
            refine then_normal ?_
            refine wp_seq ?_
            refine wp_region_lit ?_
            refine ov hr (.pointer (some ⟨B0, 0, none⟩)) (by kernel_rfl) ?_; clear hr a; intro a hr
            refine op_val (wn rfl) rfl rfl hr (v := .agg #[.int .i64 p0.Actor, .int .i64 p1.Kind, .int .i64 p1.Addr, .int .i64 p1.A, .int .i64 p1.B, .bool ((at_ p0.Held p1.Addr.toNat) == p1.A)]) (rlm (cs := [.int .i64 p0.Actor, .int .i64 p1.Kind, .int .i64 p1.Addr, .int .i64 p1.A, .int .i64 p1.B, .bool ((at_ p0.Held p1.Addr.toNat) == p1.A)]) rfl (by kernel_rfl) (by kernel_rfl) (by kernel_rfl) ⟨(h.pick 1).cell 0 rfl, (h.pick 1).cell 1 rfl, (h.pick 1).cell 2 rfl, (h.pick 1).cell 3 rfl, (h.pick 1).cell 4 rfl, (h.pick 1).cell 5 rfl, trivial⟩) ?_; clear hr a; intro a hr
            replace H := bd1 H; obtain ⟨S59, e60, H⟩ := H
            replace h : Fit z (sepL (ob34 B0 p0 ca1 cc2 ca3 cc4 :: ro2 ca1 cc2 p0.Held :: ro96 ca3 cc4 p0.Book :: pts b34 (.cells #[.int .i64 0, .bool ((at_ p0.Held p1.Addr.toNat) == p1.A), .int .i64 0] 66) :: pts b33 (.cells #[.int .i64 p0.Actor, .int .i64 p1.Kind, .int .i64 p1.Addr, .int .i64 p1.A, .int .i64 p1.B, .bool ((at_ p0.Held p1.Addr.toNat) == p1.A)] 96) :: ob69 b5 p1 :: pts b6 (.cells #[.int .i64 0, .bool false, .int .i64 0] 66) :: L)) _ := h.sel 7 [2, 3, 4, 0, 1, 5, 6] (by kernel_rfl) (by kernel_rfl)
            have hc := plunderref2_Arena_note_ok (H := e60) (h := h)
            refine op_call (wn rfl) rfl rfl hr (f := 60) (args := #[.pointer (some ⟨B0, 0, none⟩), .agg #[.int .i64 p0.Actor, .int .i64 p1.Kind, .int .i64 p1.Addr, .int .i64 p1.A, .int .i64 p1.B, .bool ((at_ p0.Held p1.Addr.toNat) == p1.A)]]) (by kernel_rfl) hc ?_; clear hc h
            rintro _ w ⟨caq61, ccq62, caq63, ccq64, rfl, h⟩; refine ⟨_, rfl, ?_⟩
            clear hr a; intro a hr
            refine wpList_nil ?_
            refine then_normal ?_
            refine wp_seq ?_
            refine wp_region_lit ?_
            refine op_val (wn rfl) rfl rfl hr (v := .agg #[.int .i64 0, .bool ((at_ p0.Held p1.Addr.toNat) == p1.A), .int .i64 0]) (rlm (cs := [.int .i64 0, .bool ((at_ p0.Held p1.Addr.toNat) == p1.A), .int .i64 0]) rfl (by kernel_rfl) (by kernel_rfl) (by kernel_rfl) ⟨(h.pick 3).cell 0 rfl, (h.pick 3).cell 1 rfl, (h.pick 3).cell 2 rfl, trivial⟩) ?_; clear hr a; intro a hr
            replace h : Fit z (sepL (pts b6 (.cells #[.int .i64 0, .bool false, .int .i64 0] 66) :: ob34 B0 S59 caq61 ccq62 caq63 ccq64 :: ro2 caq61 ccq62 S59.Held :: ro96 caq63 ccq64 S59.Book :: pts b34 (.cells #[.int .i64 0, .bool ((at_ p0.Held p1.Addr.toNat) == p1.A), .int .i64 0] 66) :: pts b33 (.cells #[.int .i64 p0.Actor, .int .i64 p1.Kind, .int .i64 p1.Addr, .int .i64 p1.A, .int .i64 p1.B, .bool ((at_ p0.Held p1.Addr.toNat) == p1.A)] 96) :: ob69 b5 p1 :: L)) _ := h.sel 7 [6, 0, 1, 2, 3, 4, 5] (by kernel_rfl) (by kernel_rfl)
            refine op_stores (wn rfl) rfl hr rfl (by kernel_rfl) (by kernel_rfl) (vs := [.int .i64 0, .bool ((at_ p0.Held p1.Addr.toNat) == p1.A), .int .i64 0]) rfl rfl (by kernel_rfl) h (i := 0) (cs' := #[.int .i64 0, .bool ((at_ p0.Held p1.Addr.toNat) == p1.A), .int .i64 0]) rfl ?_; clear h; intro w h
            refine wpList_nil ?_
            replace h : Fit z (sepL (pts b6 (.cells #[.int .i64 0, .bool ((at_ p0.Held p1.Addr.toNat) == p1.A), .int .i64 0] 66) :: ob34 B0 S59 caq61 ccq62 caq63 ccq64 :: ro2 caq61 ccq62 S59.Held :: ro96 caq63 ccq64 S59.Book :: pts b34 (.cells #[.int .i64 0, .bool ((at_ p0.Held p1.Addr.toNat) == p1.A), .int .i64 0] 66) :: pts b33 (.cells #[.int .i64 p0.Actor, .int .i64 p1.Kind, .int .i64 p1.Addr, .int .i64 p1.A, .int .i64 p1.B, .bool ((at_ p0.Held p1.Addr.toNat) == p1.A)] 96) :: ob69 b5 p1 :: L)) _ := h
            refine then_normal ?_
            refine wp_ret ?_
            refine end_retC (cs := [.int .i64 0, .bool ((at_ p0.Held p1.Addr.toNat) == p1.A), .int .i64 0]) rfl hr (by kernel_rfl) (by kernel_rfl) (by kernel_rfl) ⟨h.cell 0 rfl, h.cell 1 rfl, h.cell 2 rfl, trivial⟩ ?_
            replace h : Fit z (sepL (ob34 B0 S59 caq61 ccq62 caq63 ccq64 :: ro2 caq61 ccq62 S59.Held :: ro96 caq63 ccq64 S59.Book :: L)) _ := h.sel 7 [1, 2, 3] (by kernel_rfl) (by kernel_rfl)
            replace H := ej2 H; obtain ⟨rfl, rfl⟩ := H
            exact ⟨caq61, ccq62, caq63, ccq64, rfl, h⟩
        ·
          replace H := ifF c50 H
          refine cond_ff hr (b := (p1.Kind == (2 : Int))) (beq_eq_false_iff_ne.mpr c50) ?_
          refine wp_seq ?_
          refine wp_region_lit ?_
          refine ov hr (.pointer (some ⟨b5, 3, none⟩)) (by kernel_rfl) ?_; clear hr a; intro a hr
          refine op_val (wn rfl) rfl rfl hr (v := .int .i64 p1.A) (rl rfl (by kernel_rfl) (by kernel_rfl) ((h.pick 5).cell 3 rfl)) ?_; clear hr a; intro a hr
          refine ov hr (.pointer (some ⟨b33, 3, none⟩)) (by kernel_rfl) ?_; clear hr a; intro a hr
          replace h : Fit z (sepL (pts b33 (.cells #[.int .i64 p0.Actor, .int .i64 p1.Kind, .int .i64 p1.Addr, .int .i64 0, .int .i64 0, .bool true] 96) :: pts b34 (.cells #[.int .i64 0, .bool true, .int .i64 0] 66) :: ob34 B0 p0 ca1 cc2 ca3 cc4 :: ro2 ca1 cc2 p0.Held :: ro96 ca3 cc4 p0.Book :: ob69 b5 p1 :: pts b6 (.cells #[.int .i64 0, .bool false, .int .i64 0] 66) :: L)) _ := h.sel 7 [1, 0, 2, 3, 4, 5, 6] (by kernel_rfl) (by kernel_rfl)
          refine op_store (wn rfl) rfl hr rfl (by kernel_rfl) (by kernel_rfl) (v := .int .i64 p1.A) rfl rfl (by kernel_rfl) h (i := 3) rfl ?_; clear h; intro w h
          refine wpList_nil ?_
          replace h : Fit z (sepL (pts b33 (.cells #[.int .i64 p0.Actor, .int .i64 p1.Kind, .int .i64 p1.Addr, .int .i64 p1.A, .int .i64 0, .bool true] 96) :: pts b34 (.cells #[.int .i64 0, .bool true, .int .i64 0] 66) :: ob34 B0 p0 ca1 cc2 ca3 cc4 :: ro2 ca1 cc2 p0.Held :: ro96 ca3 cc4 p0.Book :: ob69 b5 p1 :: pts b6 (.cells #[.int .i64 0, .bool false, .int .i64 0] 66) :: L)) _ := h
          refine then_normal ?_
          refine wp_seq ?_
          refine wp_region_lit ?_
          refine ovs [63, 64] [.int .i64 (at_ p0.Held p1.Addr.toNat), .pointer (some ⟨b5, 3, none⟩)] hr ⟨rfl, rfl⟩ (by kernel_rfl) ?_; clear hr a; intro a hr
          refine op_val (wn rfl) rfl rfl hr (v := .int .i64 p1.A) (rl rfl (by kernel_rfl) (by kernel_rfl) ((h.pick 5).cell 3 rfl)) ?_; clear hr a; intro a hr
          refine ovs [66, 67] [.int .i64 (wi ((at_ p0.Held p1.Addr.toNat) + p1.A)), .pointer (some ⟨b33, 4, none⟩)] hr ⟨rfl, rfl⟩ (by kernel_rfl) ?_; clear hr a; intro a hr
          refine op_store (wn rfl) rfl hr rfl (by kernel_rfl) (by kernel_rfl) (v := .int .i64 (wi ((at_ p0.Held p1.Addr.toNat) + p1.A))) rfl rfl (by kernel_rfl) h (i := 4) rfl ?_; clear h; intro w h
          refine wpList_nil ?_
          replace h : Fit z (sepL (pts b33 (.cells #[.int .i64 p0.Actor, .int .i64 p1.Kind, .int .i64 p1.Addr, .int .i64 p1.A, .int .i64 (wi ((at_ p0.Held p1.Addr.toNat) + p1.A)), .bool true] 96) :: pts b34 (.cells #[.int .i64 0, .bool true, .int .i64 0] 66) :: ob34 B0 p0 ca1 cc2 ca3 cc4 :: ro2 ca1 cc2 p0.Held :: ro96 ca3 cc4 p0.Book :: ob69 b5 p1 :: pts b6 (.cells #[.int .i64 0, .bool false, .int .i64 0] 66) :: L)) _ := h
          refine then_normal ?_
          refine wp_seq ?_
          refine wp_region_lit ?_
          refine ovs [68, 69] [.int .i64 (at_ p0.Held p1.Addr.toNat), .pointer (some ⟨b5, 3, none⟩)] hr ⟨rfl, rfl⟩ (by kernel_rfl) ?_; clear hr a; intro a hr
          refine op_val (wn rfl) rfl rfl hr (v := .int .i64 p1.A) (rl rfl (by kernel_rfl) (by kernel_rfl) ((h.pick 5).cell 3 rfl)) ?_; clear hr a; intro a hr
          refine ovs [71, 72] [.int .i64 (wi ((at_ p0.Held p1.Addr.toNat) + p1.A)), .pointer (some ⟨b34, 0, none⟩)] hr ⟨rfl, rfl⟩ (by kernel_rfl) ?_; clear hr a; intro a hr
          replace h : Fit z (sepL (pts b34 (.cells #[.int .i64 0, .bool true, .int .i64 0] 66) :: pts b33 (.cells #[.int .i64 p0.Actor, .int .i64 p1.Kind, .int .i64 p1.Addr, .int .i64 p1.A, .int .i64 (wi ((at_ p0.Held p1.Addr.toNat) + p1.A)), .bool true] 96) :: ob34 B0 p0 ca1 cc2 ca3 cc4 :: ro2 ca1 cc2 p0.Held :: ro96 ca3 cc4 p0.Book :: ob69 b5 p1 :: pts b6 (.cells #[.int .i64 0, .bool false, .int .i64 0] 66) :: L)) _ := h.sel 7 [1, 0, 2, 3, 4, 5, 6] (by kernel_rfl) (by kernel_rfl)
          refine op_store (wn rfl) rfl hr rfl (by kernel_rfl) (by kernel_rfl) (v := .int .i64 (wi ((at_ p0.Held p1.Addr.toNat) + p1.A))) rfl rfl (by kernel_rfl) h (i := 0) rfl ?_; clear h; intro w h
          refine wpList_nil ?_
          replace h : Fit z (sepL (pts b34 (.cells #[.int .i64 (wi ((at_ p0.Held p1.Addr.toNat) + p1.A)), .bool true, .int .i64 0] 66) :: pts b33 (.cells #[.int .i64 p0.Actor, .int .i64 p1.Kind, .int .i64 p1.Addr, .int .i64 p1.A, .int .i64 (wi ((at_ p0.Held p1.Addr.toNat) + p1.A)), .bool true] 96) :: ob34 B0 p0 ca1 cc2 ca3 cc4 :: ro2 ca1 cc2 p0.Held :: ro96 ca3 cc4 p0.Book :: ob69 b5 p1 :: pts b6 (.cells #[.int .i64 0, .bool false, .int .i64 0] 66) :: L)) _ := h
          refine then_normal ?_
          refine reg_E (fun w => heldC w B0 1 [.slice ca1 p0.Held.length cc2] ∧ heldC w b5 2 [.int .i64 p1.Addr] ∧ heldC w b5 3 [.int .i64 p1.A] ∧ True) [1, 2, 4, 7, 9] h (by kernel_rfl) ?_; intro w h
          change wpAnyE _ _ _ _ _ _ 12 (Array.replicate 12 false) a w
          have hgo : ∀ w w', CellsGo w w' → (heldC w B0 1 [.slice ca1 p0.Held.length cc2] ∧ heldC w b5 2 [.int .i64 p1.Addr] ∧ heldC w b5 3 [.int .i64 p1.A] ∧ True) → heldC w' B0 1 [.slice ca1 p0.Held.length cc2] ∧ heldC w' b5 2 [.int .i64 p1.Addr] ∧ heldC w' b5 3 [.int .i64 p1.A] ∧ True := fun w w' g hD => ⟨heldC_go _ _ _ _ _ g hD.1, heldC_go _ _ _ _ _ g hD.2.1, heldC_go _ _ _ _ _ g hD.2.2.1, trivial⟩
          refine ev 11 0 rfl (by kernel_rfl) (wn rfl) hr (.pointer (some ⟨B0, 0, none⟩)) (fun w => by kernel_rfl) ?_; clear hr a; intro a hr
          refine evD hgo ⟨⟨(h.pick 2).cell 1 rfl, trivial⟩, ⟨(h.pick 5).cell 2 rfl, trivial⟩, ⟨(h.pick 5).cell 3 rfl, trivial⟩, trivial⟩ 10 1 rfl (by kernel_rfl) (wn rfl) hr (.pointer (some ⟨B0, 0, none⟩)) (fun w => by kernel_rfl) ?_; clear hr a; intro a hr
          refine evD hgo ⟨⟨(h.pick 2).cell 1 rfl, trivial⟩, ⟨(h.pick 5).cell 2 rfl, trivial⟩, ⟨(h.pick 5).cell 3 rfl, trivial⟩, trivial⟩ 9 2 rfl (by kernel_rfl) (wn rfl) hr (.pointer (some ⟨B0, 1, none⟩)) (fun w => by kernel_rfl) ?_; clear hr a; intro a hr
          refine evD hgo ⟨⟨(h.pick 2).cell 1 rfl, trivial⟩, ⟨(h.pick 5).cell 2 rfl, trivial⟩, ⟨(h.pick 5).cell 3 rfl, trivial⟩, trivial⟩ 8 4 rfl (by kernel_rfl) (wn rfl) hr (.pointer (some ⟨b5, 2, none⟩)) (fun w => by kernel_rfl) ?_; clear hr a; intro a hr
          refine ev 7 6 rfl (by kernel_rfl) (wn rfl) hr (.int .i64 (at_ p0.Held p1.Addr.toNat)) (fun w => by kernel_rfl) ?_; clear hr a; intro a hr
          refine evD hgo ⟨⟨(h.pick 2).cell 1 rfl, trivial⟩, ⟨(h.pick 5).cell 2 rfl, trivial⟩, ⟨(h.pick 5).cell 3 rfl, trivial⟩, trivial⟩ 6 7 rfl (by kernel_rfl) (wn rfl) hr (.pointer (some ⟨b5, 3, none⟩)) (fun w => by kernel_rfl) ?_; clear hr a; intro a hr
          refine el [1, 2, 4, 7, 9] (b := B0) (off := 1) (cs := [.slice ca1 p0.Held.length cc2]) (fun _ hk => ⟨hk, fun w hD => hD.1⟩) 5 3 rfl (by kernel_rfl) (wn rfl) hr (.slice ca1 p0.Held.length cc2) ⟨(h.pick 2).cell 1 rfl, trivial⟩ (fun w hc => rl rfl (by kernel_rfl) (by kernel_rfl) hc.1) ?_; clear hr a; intro a hr
          refine el [1, 2, 4, 7, 9] (b := b5) (off := 2) (cs := [.int .i64 p1.Addr]) (fun _ hk => ⟨hk, fun w hD => hD.2.1⟩) 4 5 rfl (by kernel_rfl) (wn rfl) hr (.int .i64 p1.Addr) ⟨(h.pick 5).cell 2 rfl, trivial⟩ (fun w hc => rl rfl (by kernel_rfl) (by kernel_rfl) hc.1) ?_; clear hr a; intro a hr
          refine el [1, 2, 4, 7, 9] (b := b5) (off := 3) (cs := [.int .i64 p1.A]) (fun _ hk => ⟨hk, fun w hD => hD.2.2.1⟩) 3 8 rfl (by kernel_rfl) (wn rfl) hr (.int .i64 p1.A) ⟨(h.pick 5).cell 3 rfl, trivial⟩ (fun w hc => rl rfl (by kernel_rfl) (by kernel_rfl) hc.1) ?_; clear hr a; intro a hr
          refine evD hgo ⟨⟨(h.pick 2).cell 1 rfl, trivial⟩, ⟨(h.pick 5).cell 2 rfl, trivial⟩, ⟨(h.pick 5).cell 3 rfl, trivial⟩, trivial⟩ 2 9 rfl (by kernel_rfl) (wn rfl) hr (.int .i64 (wi ((at_ p0.Held p1.Addr.toNat) + p1.A))) (fun w => by kernel_rfl) ?_; clear hr a; intro a hr
          refine ev 1 10 rfl (by kernel_rfl) (wn rfl) hr (.pointer (some ⟨blk ca1, p1.Addr.toNat * 1, none⟩)) (fun w => ri_row (k := .i64) (E := 2) rfl (by kernel_rfl) (by kernel_rfl) (by kernel_rfl) (by kernel_rfl) (h.pick 3) c32) ?_; clear hr a; intro a hr
          refine e_one (fuel := 0) (i := 11) (by kernel_rfl) rfl ?_
          replace h : Fit z (sepL (ro2 ca1 cc2 p0.Held :: pts b34 (.cells #[.int .i64 (wi ((at_ p0.Held p1.Addr.toNat) + p1.A)), .bool true, .int .i64 0] 66) :: pts b33 (.cells #[.int .i64 p0.Actor, .int .i64 p1.Kind, .int .i64 p1.Addr, .int .i64 p1.A, .int .i64 (wi ((at_ p0.Held p1.Addr.toNat) + p1.A)), .bool true] 96) :: ob34 B0 p0 ca1 cc2 ca3 cc4 :: ro96 ca3 cc4 p0.Book :: ob69 b5 p1 :: pts b6 (.cells #[.int .i64 0, .bool false, .int .i64 0] 66) :: L)) _ := h.sel 7 [3, 0, 1, 2, 4, 5, 6] (by kernel_rfl) (by kernel_rfl)
          refine op_store_row (wn rfl) rfl hr rfl (by kernel_rfl) (by kernel_rfl) (v := .int .i64 (wi ((at_ p0.Held p1.Addr.toNat) + p1.A))) rfl rfl (by kernel_rfl) encZ_i64_ok h (i := p1.Addr.toNat) (f := 0) (p := (at_ p0.Held p1.Addr.toNat)) (q := (wi ((at_ p0.Held p1.Addr.toNat) + p1.A))) (at_ok c32) (by decide) rfl ?_; clear h; intro w h
          replace h : Fit z (sepL (rowOf 2 1 encZ_i64 (.slice ca1 p0.Held.length cc2) (p0.Held.set p1.Addr.toNat (wi ((at_ p0.Held p1.Addr.toNat) + p1.A))) :: pts b34 (.cells #[.int .i64 (wi ((at_ p0.Held p1.Addr.toNat) + p1.A)), .bool true, .int .i64 0] 66) :: pts b33 (.cells #[.int .i64 p0.Actor, .int .i64 p1.Kind, .int .i64 p1.Addr, .int .i64 p1.A, .int .i64 (wi ((at_ p0.Held p1.Addr.toNat) + p1.A)), .bool true] 96) :: ob34 B0 p0 ca1 cc2 ca3 cc4 :: ro96 ca3 cc4 p0.Book :: ob69 b5 p1 :: pts b6 (.cells #[.int .i64 0, .bool false, .int .i64 0] 66) :: L)) _ := h
          refine wpList_nil ?_; refine then_normal ?_
          refine ⟨fun hE => absurd hE (by decide), ?_⟩
          refine e_end (by kernel_rfl) ?_
          refine blk_normal ?_
          refine then_normal ?_
          refine wp_seq ?_
          refine wp_region_lit ?_
          refine ov hr (.pointer (some ⟨B0, 0, none⟩)) (by kernel_rfl) ?_; clear hr a; intro a hr
          refine op_val (wn rfl) rfl rfl hr (v := .agg #[.int .i64 p0.Actor, .int .i64 p1.Kind, .int .i64 p1.Addr, .int .i64 p1.A, .int .i64 (wi ((at_ p0.Held p1.Addr.toNat) + p1.A)), .bool true]) (rlm (cs := [.int .i64 p0.Actor, .int .i64 p1.Kind, .int .i64 p1.Addr, .int .i64 p1.A, .int .i64 (wi ((at_ p0.Held p1.Addr.toNat) + p1.A)), .bool true]) rfl (by kernel_rfl) (by kernel_rfl) (by kernel_rfl) ⟨(h.pick 2).cell 0 rfl, (h.pick 2).cell 1 rfl, (h.pick 2).cell 2 rfl, (h.pick 2).cell 3 rfl, (h.pick 2).cell 4 rfl, (h.pick 2).cell 5 rfl, trivial⟩) ?_; clear hr a; intro a hr
          have hn64 := h.row_n
          replace h : Fit z (sepL (ro2 ca1 cc2 (p0.Held.set p1.Addr.toNat (wi ((at_ p0.Held p1.Addr.toNat) + p1.A))) :: pts b34 (.cells #[.int .i64 (wi ((at_ p0.Held p1.Addr.toNat) + p1.A)), .bool true, .int .i64 0] 66) :: pts b33 (.cells #[.int .i64 p0.Actor, .int .i64 p1.Kind, .int .i64 p1.Addr, .int .i64 p1.A, .int .i64 (wi ((at_ p0.Held p1.Addr.toNat) + p1.A)), .bool true] 96) :: pts B0 (.cells #[.int .i64 p0.Most, .slice ca1 ((p0.Held.set p1.Addr.toNat (wi ((at_ p0.Held p1.Addr.toNat) + p1.A))).length) cc2, .bool p0.On, .int .i64 p0.Actor, .slice ca3 p0.Book.length cc4] 34) :: ro96 ca3 cc4 p0.Book :: ob69 b5 p1 :: pts b6 (.cells #[.int .i64 0, .bool false, .int .i64 0] 66) :: L)) w := (congrArg (fun q_ : Nat => Fit z (sepL (rowOf 2 1 encZ_i64 (.slice ca1 q_ cc2) (p0.Held.set p1.Addr.toNat (wi ((at_ p0.Held p1.Addr.toNat) + p1.A))) :: pts b34 (.cells #[.int .i64 (wi ((at_ p0.Held p1.Addr.toNat) + p1.A)), .bool true, .int .i64 0] 66) :: pts b33 (.cells #[.int .i64 p0.Actor, .int .i64 p1.Kind, .int .i64 p1.Addr, .int .i64 p1.A, .int .i64 (wi ((at_ p0.Held p1.Addr.toNat) + p1.A)), .bool true] 96) :: pts B0 (.cells #[.int .i64 p0.Most, .slice ca1 q_ cc2, .bool p0.On, .int .i64 p0.Actor, .slice ca3 p0.Book.length cc4] 34) :: ro96 ca3 cc4 p0.Book :: ob69 b5 p1 :: pts b6 (.cells #[.int .i64 0, .bool false, .int .i64 0] 66) :: L)) w) h.row_n).mp h
          replace H := bd1 H; obtain ⟨S66, e67, H⟩ := H
          replace h : Fit z (sepL (pts B0 (.cells #[.int .i64 p0.Most, .slice ca1 ((p0.Held.set p1.Addr.toNat (wi ((at_ p0.Held p1.Addr.toNat) + p1.A))).length) cc2, .bool p0.On, .int .i64 p0.Actor, .slice ca3 p0.Book.length cc4] 34) :: ro2 ca1 cc2 (p0.Held.set p1.Addr.toNat (wi ((at_ p0.Held p1.Addr.toNat) + p1.A))) :: ro96 ca3 cc4 p0.Book :: pts b34 (.cells #[.int .i64 (wi ((at_ p0.Held p1.Addr.toNat) + p1.A)), .bool true, .int .i64 0] 66) :: pts b33 (.cells #[.int .i64 p0.Actor, .int .i64 p1.Kind, .int .i64 p1.Addr, .int .i64 p1.A, .int .i64 (wi ((at_ p0.Held p1.Addr.toNat) + p1.A)), .bool true] 96) :: ob69 b5 p1 :: pts b6 (.cells #[.int .i64 0, .bool false, .int .i64 0] 66) :: L)) _ := h.sel 7 [3, 0, 4, 1, 2, 5, 6] (by kernel_rfl) (by kernel_rfl)
          have hc := plunderref2_Arena_note_ok (H := e67) (h := h)
          refine op_call (wn rfl) rfl rfl hr (f := 60) (args := #[.pointer (some ⟨B0, 0, none⟩), .agg #[.int .i64 p0.Actor, .int .i64 p1.Kind, .int .i64 p1.Addr, .int .i64 p1.A, .int .i64 (wi ((at_ p0.Held p1.Addr.toNat) + p1.A)), .bool true]]) (by kernel_rfl) hc ?_; clear hc h
          rintro _ w ⟨caq68, ccq69, caq70, ccq71, rfl, h⟩; refine ⟨_, rfl, ?_⟩
          clear hr a; intro a hr
          refine wpList_nil ?_
          refine then_normal ?_
          refine wp_seq ?_
          refine wp_region_lit ?_
          refine op_val (wn rfl) rfl rfl hr (v := .agg #[.int .i64 (wi ((at_ p0.Held p1.Addr.toNat) + p1.A)), .bool true, .int .i64 0]) (rlm (cs := [.int .i64 (wi ((at_ p0.Held p1.Addr.toNat) + p1.A)), .bool true, .int .i64 0]) rfl (by kernel_rfl) (by kernel_rfl) (by kernel_rfl) ⟨(h.pick 3).cell 0 rfl, (h.pick 3).cell 1 rfl, (h.pick 3).cell 2 rfl, trivial⟩) ?_; clear hr a; intro a hr
          replace h : Fit z (sepL (pts b6 (.cells #[.int .i64 0, .bool false, .int .i64 0] 66) :: ob34 B0 S66 caq68 ccq69 caq70 ccq71 :: ro2 caq68 ccq69 S66.Held :: ro96 caq70 ccq71 S66.Book :: pts b34 (.cells #[.int .i64 (wi ((at_ p0.Held p1.Addr.toNat) + p1.A)), .bool true, .int .i64 0] 66) :: pts b33 (.cells #[.int .i64 p0.Actor, .int .i64 p1.Kind, .int .i64 p1.Addr, .int .i64 p1.A, .int .i64 (wi ((at_ p0.Held p1.Addr.toNat) + p1.A)), .bool true] 96) :: ob69 b5 p1 :: L)) _ := h.sel 7 [6, 0, 1, 2, 3, 4, 5] (by kernel_rfl) (by kernel_rfl)
          refine op_stores (wn rfl) rfl hr rfl (by kernel_rfl) (by kernel_rfl) (vs := [.int .i64 (wi ((at_ p0.Held p1.Addr.toNat) + p1.A)), .bool true, .int .i64 0]) rfl rfl (by kernel_rfl) h (i := 0) (cs' := #[.int .i64 (wi ((at_ p0.Held p1.Addr.toNat) + p1.A)), .bool true, .int .i64 0]) rfl ?_; clear h; intro w h
          refine wpList_nil ?_
          replace h : Fit z (sepL (pts b6 (.cells #[.int .i64 (wi ((at_ p0.Held p1.Addr.toNat) + p1.A)), .bool true, .int .i64 0] 66) :: ob34 B0 S66 caq68 ccq69 caq70 ccq71 :: ro2 caq68 ccq69 S66.Held :: ro96 caq70 ccq71 S66.Book :: pts b34 (.cells #[.int .i64 (wi ((at_ p0.Held p1.Addr.toNat) + p1.A)), .bool true, .int .i64 0] 66) :: pts b33 (.cells #[.int .i64 p0.Actor, .int .i64 p1.Kind, .int .i64 p1.Addr, .int .i64 p1.A, .int .i64 (wi ((at_ p0.Held p1.Addr.toNat) + p1.A)), .bool true] 96) :: ob69 b5 p1 :: L)) _ := h
          refine then_normal ?_
          refine wp_ret ?_
          refine end_retC (cs := [.int .i64 (wi ((at_ p0.Held p1.Addr.toNat) + p1.A)), .bool true, .int .i64 0]) rfl hr (by kernel_rfl) (by kernel_rfl) (by kernel_rfl) ⟨h.cell 0 rfl, h.cell 1 rfl, h.cell 2 rfl, trivial⟩ ?_
          replace h : Fit z (sepL (ob34 B0 S66 caq68 ccq69 caq70 ccq71 :: ro2 caq68 ccq69 S66.Held :: ro96 caq70 ccq71 S66.Book :: L)) _ := h.sel 7 [1, 2, 3] (by kernel_rfl) (by kernel_rfl)
          replace H := ej2 H; obtain ⟨rfl, rfl⟩ := H
          exact ⟨caq68, ccq69, caq70, ccq71, rfl, h⟩

/-- (*plunder/cells.ledger).refuse -/
def cells_ledger_refuse (p0 : T_cells_Arena) (p1 : Int) : Option (Int) :=
  (if p1 < (1 : Int) then some 21 else (if p1 > (wi (p0.ledger_size - p0.ledger_mark)) then some 22 else some 0))
set_option maxRecDepth 100000 in
set_option maxHeartbeats 4000000 in
theorem cells_ledger_refuse_ok {z w : World} {L : List HProp} {p0 : T_cells_Arena} {p1 : Int} {B0 : Nat} {ca1 : Option Addr} {cc2 : Nat} {ca3 : Option Addr} {cc4 : Nat} {r0 : Int} (H : cells_ledger_refuse p0 p1 = some r0) (h : Fit z (sepL (ob103 B0 p0 ca1 cc2 ca3 cc4 :: ro2 ca1 cc2 p0.cell :: ro96 ca3 cc4 p0.log :: L)) w)  :
    Calls Try.prog 61 #[.pointer (some ⟨B0, 0, none⟩), .int .i64 p1] w fun e w => e = .returned (.int .i64 r0) ∧ Fit z (sepL (ob103 B0 p0 ca1 cc2 ca3 cc4 :: ro2 ca1 cc2 p0.cell :: ro96 ca3 cc4 p0.log :: L)) w := by
  unfold cells_ledger_refuse at H
  refine enter Try.func61 rfl 22 rfl rfl [(0, .pointer (some ⟨B0, 0, none⟩)), (1, .int .i64 p1)] ⟨rfl, rfl, trivial⟩ ?_
  intro j a hr
  refine wp_seq ?_
  refine wp_region_lit ?_
  refine ov hr (.int .i64 0) (by kernel_rfl) ?_; clear hr a; intro a hr
  refine wpList_nil ?_
  refine then_normal ?_
  refine wp_seq ?_
  refine wp_seq ?_
  refine wp_region_lit ?_
  refine ovs [5, 6] [.int .i64 p1, .bool (decide (p1 < (1 : Int)))] hr ⟨rfl, rfl⟩ (by kernel_rfl) ?_; clear hr a; intro a hr
  refine wpList_nil ?_
  refine then_normal ?_
  by_cases c5 : p1 < (1 : Int)
  ·
    replace H := ifT c5 H
    refine cond_tt hr (b := (decide (p1 < (1 : Int)))) (decide_eq_true c5) ?_
    refine wp_seq ?_
    refine wp_region_lit ?_
    refine ov hr (.int .i64 21) (by kernel_rfl) ?_; clear hr a; intro a hr
    refine wpList_nil ?_
    refine then_normal ?_
    refine wp_ret ?_
    refine then_ret ?_
    refine end_ret1 (v := .int .i64 21) rfl hr (by kernel_rfl) ?_
    replace H := ej1 H; subst H
    exact ⟨rfl, h⟩
  ·
    replace H := ifF c5 H
    refine cond_ff hr (b := (decide (p1 < (1 : Int)))) (decide_eq_false c5) ?_
    refine wp_skip ?_
    refine then_normal ?_
    refine wp_seq ?_
    refine wp_seq ?_
    refine reg_E (fun w => heldC w B0 0 [.int .i64 p0.ledger_size] ∧ heldC w B0 1 [.int .i64 p0.ledger_mark] ∧ True) [1, 5, 6, 9, 10] h (by kernel_rfl) ?_; intro w h
    change wpAnyE _ _ _ _ _ _ 15 (Array.replicate 15 false) a w
    have hgo : ∀ w w', CellsGo w w' → (heldC w B0 0 [.int .i64 p0.ledger_size] ∧ heldC w B0 1 [.int .i64 p0.ledger_mark] ∧ True) → heldC w' B0 0 [.int .i64 p0.ledger_size] ∧ heldC w' B0 1 [.int .i64 p0.ledger_mark] ∧ True := fun w w' g hD => ⟨heldC_go _ _ _ _ _ g hD.1, heldC_go _ _ _ _ _ g hD.2.1, trivial⟩
    refine ev 14 0 rfl (by kernel_rfl) (wn rfl) hr (.pointer (some ⟨B0, 0, none⟩)) (fun w => by kernel_rfl) ?_; clear hr a; intro a hr
    refine evD hgo ⟨⟨h.cell 0 rfl, trivial⟩, ⟨h.cell 1 rfl, trivial⟩, trivial⟩ 13 1 rfl (by kernel_rfl) (wn rfl) hr (.bool false) (fun w => by kernel_rfl) ?_; clear hr a; intro a hr
    refine ev 12 2 rfl (by kernel_rfl) (wn rfl) hr (.bool false) (fun w => by kernel_rfl) ?_; clear hr a; intro a hr
    refine ev 11 3 rfl (by kernel_rfl) ((wg hr rfl rfl rfl (b' := false) (by kernel_rfl)).trans rfl) hr (.int .i64 p1) (fun w => by kernel_rfl) ?_; clear hr a; intro a hr
    refine ev 10 4 rfl (by kernel_rfl) ((wg hr rfl rfl rfl (b' := false) (by kernel_rfl)).trans rfl) hr (.pointer (some ⟨B0, 0, none⟩)) (fun w => by kernel_rfl) ?_; clear hr a; intro a hr
    refine evD hgo ⟨⟨h.cell 0 rfl, trivial⟩, ⟨h.cell 1 rfl, trivial⟩, trivial⟩ 9 5 rfl (by kernel_rfl) ((wg hr rfl rfl rfl (b' := false) (by kernel_rfl)).trans rfl) hr (.pointer (some ⟨B0, 0, none⟩)) (fun w => by kernel_rfl) ?_; clear hr a; intro a hr
    refine evD hgo ⟨⟨h.cell 0 rfl, trivial⟩, ⟨h.cell 1 rfl, trivial⟩, trivial⟩ 8 6 rfl (by kernel_rfl) ((wg hr rfl rfl rfl (b' := false) (by kernel_rfl)).trans rfl) hr (.pointer (some ⟨B0, 0, none⟩)) (fun w => by kernel_rfl) ?_; clear hr a; intro a hr
    refine ev 7 8 rfl (by kernel_rfl) ((wg hr rfl rfl rfl (b' := false) (by kernel_rfl)).trans rfl) hr (.pointer (some ⟨B0, 0, none⟩)) (fun w => by kernel_rfl) ?_; clear hr a; intro a hr
    refine evD hgo ⟨⟨h.cell 0 rfl, trivial⟩, ⟨h.cell 1 rfl, trivial⟩, trivial⟩ 6 9 rfl (by kernel_rfl) ((wg hr rfl rfl rfl (b' := false) (by kernel_rfl)).trans rfl) hr (.pointer (some ⟨B0, 0, none⟩)) (fun w => by kernel_rfl) ?_; clear hr a; intro a hr
    refine evD hgo ⟨⟨h.cell 0 rfl, trivial⟩, ⟨h.cell 1 rfl, trivial⟩, trivial⟩ 5 10 rfl (by kernel_rfl) ((wg hr rfl rfl rfl (b' := false) (by kernel_rfl)).trans rfl) hr (.pointer (some ⟨B0, 1, none⟩)) (fun w => by kernel_rfl) ?_; clear hr a; intro a hr
    refine el [1, 5, 6, 9, 10] (b := B0) (off := 0) (cs := [.int .i64 p0.ledger_size]) (fun _ hk => ⟨hk, fun w hD => hD.1⟩) 4 7 rfl (by kernel_rfl) ((wg hr rfl rfl rfl (b' := false) (by kernel_rfl)).trans rfl) hr (.int .i64 p0.ledger_size) ⟨h.cell 0 rfl, trivial⟩ (fun w hc => rl rfl (by kernel_rfl) (by kernel_rfl) hc.1) ?_; clear hr a; intro a hr
    refine el [1, 5, 6, 9, 10] (b := B0) (off := 1) (cs := [.int .i64 p0.ledger_mark]) (fun _ hk => ⟨hk, fun w hD => hD.2.1⟩) 3 11 rfl (by kernel_rfl) ((wg hr rfl rfl rfl (b' := false) (by kernel_rfl)).trans rfl) hr (.int .i64 p0.ledger_mark) ⟨h.cell 1 rfl, trivial⟩ (fun w hc => rl rfl (by kernel_rfl) (by kernel_rfl) hc.1) ?_; clear hr a; intro a hr
    refine ev 2 12 rfl (by kernel_rfl) ((wg hr rfl rfl rfl (b' := false) (by kernel_rfl)).trans rfl) hr (.int .i64 (wi (p0.ledger_size - p0.ledger_mark))) (fun w => by kernel_rfl) ?_; clear hr a; intro a hr
    refine ev 1 13 rfl (by kernel_rfl) ((wg hr rfl rfl rfl (b' := false) (by kernel_rfl)).trans rfl) hr (.bool (decide (p1 > (wi (p0.ledger_size - p0.ledger_mark))))) (fun w => by kernel_rfl) ?_; clear hr a; intro a hr
    refine ev 0 14 rfl (by kernel_rfl) (wn rfl) hr (.bool (decide (p1 > (wi (p0.ledger_size - p0.ledger_mark))))) (fun w => by kernel_rfl) ?_; clear hr a; intro a hr
    refine e_end (by kernel_rfl) ?_
    refine then_normal ?_
    by_cases c6 : p1 > (wi (p0.ledger_size - p0.ledger_mark))
    ·
      replace H := ifT c6 H
      refine cond_tt hr (b := (decide (p1 > (wi (p0.ledger_size - p0.ledger_mark))))) (decide_eq_true c6) ?_
      refine wp_seq ?_
      refine wp_region_lit ?_
      refine ov hr (.int .i64 22) (by kernel_rfl) ?_; clear hr a; intro a hr
      refine wpList_nil ?_
      refine then_normal ?_
      refine wp_ret ?_
      refine then_ret ?_
      refine end_ret1 (v := .int .i64 22) rfl hr (by kernel_rfl) ?_
      replace H := ej1 H; subst H
      exact ⟨rfl, h⟩
    ·
      replace H := ifF c6 H
      refine cond_ff hr (b := (decide (p1 > (wi (p0.ledger_size - p0.ledger_mark))))) (decide_eq_false c6) ?_
      refine wp_skip ?_
      refine then_normal ?_
      refine wp_seq ?_
      refine wp_region_lit ?_
      refine ov hr (.int .i64 0) (by kernel_rfl) ?_; clear hr a; intro a hr
      refine wpList_nil ?_
      refine then_normal ?_
      refine wp_ret ?_
      refine end_ret1 (v := .int .i64 0) rfl hr (by kernel_rfl) ?_
      replace H := ej1 H; subst H
      exact ⟨rfl, h⟩

/-- (*plunder/cells.ledger).take -/
def cells_ledger_take (p0 : T_cells_Arena) (p1 : Int) : Option (Int × T_cells_Arena) :=
  some (p0.ledger_mark, { p0 with ledger_mark := wi (p0.ledger_mark + p1) })
set_option maxRecDepth 100000 in
set_option maxHeartbeats 4000000 in
theorem cells_ledger_take_ok {z w : World} {L : List HProp} {p0 : T_cells_Arena} {p1 : Int} {B0 : Nat} {ca1 : Option Addr} {cc2 : Nat} {ca3 : Option Addr} {cc4 : Nat} {r0 : Int} {q0 : T_cells_Arena} (H : cells_ledger_take p0 p1 = some (r0, q0)) (h : Fit z (sepL (ob103 B0 p0 ca1 cc2 ca3 cc4 :: ro2 ca1 cc2 p0.cell :: ro96 ca3 cc4 p0.log :: L)) w)  :
    Calls Try.prog 62 #[.pointer (some ⟨B0, 0, none⟩), .int .i64 p1] w fun e w => ∃ caq0_1 : Option Addr, ∃ ccq0_2 : Nat, ∃ caq0_3 : Option Addr, ∃ ccq0_4 : Nat, e = .returned (.int .i64 r0) ∧ Fit z (sepL (ob103 B0 q0 caq0_1 ccq0_2 caq0_3 ccq0_4 :: ro2 caq0_1 ccq0_2 q0.cell :: ro96 caq0_3 ccq0_4 q0.log :: L)) w := by
  unfold cells_ledger_take at H
  refine enter Try.func62 rfl 19 rfl rfl [(0, .pointer (some ⟨B0, 0, none⟩)), (1, .int .i64 p1)] ⟨rfl, rfl, trivial⟩ ?_
  intro j a hr
  refine wp_seq ?_
  refine wp_region_lit ?_
  refine ov hr (.int .i64 0) (by kernel_rfl) ?_; clear hr a; intro a hr
  refine wpList_nil ?_
  refine then_normal ?_
  refine wp_seq ?_
  refine wp_region_lit ?_
  refine ovs [6, 7, 8] [.pointer (some ⟨B0, 0, none⟩), .pointer (some ⟨B0, 0, none⟩), .pointer (some ⟨B0, 1, none⟩)] hr ⟨rfl, rfl⟩ (by kernel_rfl) ?_; clear hr a; intro a hr
  refine op_val (wn rfl) rfl rfl hr (v := .int .i64 p0.ledger_mark) (rl rfl (by kernel_rfl) (by kernel_rfl) (h.cell 1 rfl)) ?_; clear hr a; intro a hr
  refine ov hr (.int .i64 p0.ledger_mark) (by kernel_rfl) ?_; clear hr a; intro a hr
  refine wpList_nil ?_
  refine then_normal ?_
  refine wp_seq ?_
  refine wp_region_lit ?_
  refine ovs [10, 11, 12] [.pointer (some ⟨B0, 0, none⟩), .pointer (some ⟨B0, 0, none⟩), .pointer (some ⟨B0, 1, none⟩)] hr ⟨rfl, rfl⟩ (by kernel_rfl) ?_; clear hr a; intro a hr
  refine op_val (wn rfl) rfl rfl hr (v := .int .i64 p0.ledger_mark) (rl rfl (by kernel_rfl) (by kernel_rfl) (h.cell 1 rfl)) ?_; clear hr a; intro a hr
  refine ovs [14, 15, 16, 17] [.int .i64 p1, .int .i64 (wi (p0.ledger_mark + p1)), .pointer (some ⟨B0, 0, none⟩), .pointer (some ⟨B0, 1, none⟩)] hr ⟨rfl, rfl⟩ (by kernel_rfl) ?_; clear hr a; intro a hr
  refine op_store (wn rfl) rfl hr rfl (by kernel_rfl) (by kernel_rfl) (v := .int .i64 (wi (p0.ledger_mark + p1))) rfl rfl (by kernel_rfl) h (i := 1) rfl ?_; clear h; intro w h
  refine wpList_nil ?_
  replace h : Fit z (sepL (pts B0 (.cells #[.int .i64 p0.ledger_size, .int .i64 (wi (p0.ledger_mark + p1)), .slice ca1 p0.cell.length cc2, .slice ca3 p0.log.length cc4, .int .i64 p0.actor, .bool p0.watched] 103) :: ro2 ca1 cc2 p0.cell :: ro96 ca3 cc4 p0.log :: L)) _ := h
  refine then_normal ?_
  refine wp_seq ?_
  refine wp_region_lit ?_
  refine ovs [18, 4] [.int .i64 p0.ledger_mark, .int .i64 p0.ledger_mark] hr ⟨rfl, rfl⟩ (by kernel_rfl) ?_; clear hr a; intro a hr
  refine wpList_nil ?_
  refine then_normal ?_
  refine wp_ret ?_
  refine end_ret1 (v := .int .i64 p0.ledger_mark) rfl hr (by kernel_rfl) ?_
  replace H := ej2 H; obtain ⟨rfl, rfl⟩ := H
  exact ⟨ca1, cc2, ca3, cc4, rfl, h⟩

/-- (*plunder/cells.Arena).note -/
def cells_Arena_note (p0 : T_cells_Arena) (p1 : Int) (p2 : Int) (p3 : Int) (p4 : Int) (p5 : Bool) : Option (T_cells_Arena) :=
  (if p0.watched = true then if (p0.log.length + 1) * 48 ≤ 140737488355328 then some ({ p0 with log := p0.log ++ [(⟨p0.actor, p1, p2, p3, p4, p5⟩ : T_api_Access)] }) else none else some p0)
set_option maxRecDepth 100000 in
set_option maxHeartbeats 4000000 in
theorem cells_Arena_note_ok {z w : World} {L : List HProp} {p0 : T_cells_Arena} {p1 : Int} {p2 : Int} {p3 : Int} {p4 : Int} {p5 : Bool} {B0 : Nat} {ca1 : Option Addr} {cc2 : Nat} {ca3 : Option Addr} {cc4 : Nat} {q0 : T_cells_Arena} (H : cells_Arena_note p0 p1 p2 p3 p4 p5 = some q0) (h : Fit z (sepL (ob103 B0 p0 ca1 cc2 ca3 cc4 :: ro2 ca1 cc2 p0.cell :: ro96 ca3 cc4 p0.log :: L)) w)  :
    Calls Try.prog 63 #[.pointer (some ⟨B0, 0, none⟩), .int .i64 p1, .int .i64 p2, .int .i64 p3, .int .i64 p4, .bool p5] w fun e w => ∃ caq0_1 : Option Addr, ∃ ccq0_2 : Nat, ∃ caq0_3 : Option Addr, ∃ ccq0_4 : Nat, e = .returned (.tuple #[]) ∧ Fit z (sepL (ob103 B0 q0 caq0_1 ccq0_2 caq0_3 ccq0_4 :: ro2 caq0_1 ccq0_2 q0.cell :: ro96 caq0_3 ccq0_4 q0.log :: L)) w := by
  unfold cells_Arena_note at H
  refine enter Try.func63 rfl 35 rfl rfl [(0, .pointer (some ⟨B0, 0, none⟩)), (1, .int .i64 p1), (2, .int .i64 p2), (3, .int .i64 p3), (4, .int .i64 p4), (5, .bool p5)] ⟨rfl, rfl, rfl, rfl, rfl, rfl, trivial⟩ ?_
  intro j a hr
  refine wp_seq ?_
  refine wp_region_lit ?_
  refine ovs [12, 13, 14] [.pointer (some ⟨B0, 0, none⟩), .pointer (some ⟨B0, 0, none⟩), .pointer (some ⟨B0, 5, none⟩)] hr ⟨rfl, rfl⟩ (by kernel_rfl) ?_; clear hr a; intro a hr
  refine op_val (wn rfl) rfl rfl hr (v := .bool p0.watched) (rl rfl (by kernel_rfl) (by kernel_rfl) (h.cell 5 rfl)) ?_; clear hr a; intro a hr
  refine wpList_nil ?_
  refine then_normal ?_
  by_cases c5 : p0.watched = true
  ·
    replace H := ifT c5 H
    refine cond_tt hr (b := p0.watched) (c5) ?_
    replace H := gd H; obtain ⟨c9, H⟩ := H
    refine reg_E (fun w => heldC w B0 3 [.slice ca3 p0.log.length cc4] ∧ heldC w B0 4 [.int .i64 p0.actor] ∧ True) [2, 3, 6, 7, 14] h (by kernel_rfl) ?_; intro w h
    change wpAnyE _ _ _ _ _ _ 20 (Array.replicate 20 false) a w
    have hgo : ∀ w w', CellsGo w w' → (heldC w B0 3 [.slice ca3 p0.log.length cc4] ∧ heldC w B0 4 [.int .i64 p0.actor] ∧ True) → heldC w' B0 3 [.slice ca3 p0.log.length cc4] ∧ heldC w' B0 4 [.int .i64 p0.actor] ∧ True := fun w w' g hD => ⟨heldC_go _ _ _ _ _ g hD.1, heldC_go _ _ _ _ _ g hD.2.1, trivial⟩
    refine ev 19 0 rfl (by kernel_rfl) (wn rfl) hr (.pointer (some ⟨B0, 0, none⟩)) (fun w => by kernel_rfl) ?_; clear hr a; intro a hr
    refine ev 18 1 rfl (by kernel_rfl) (wn rfl) hr (.pointer (some ⟨B0, 0, none⟩)) (fun w => by kernel_rfl) ?_; clear hr a; intro a hr
    refine evD hgo ⟨⟨h.cell 3 rfl, trivial⟩, ⟨h.cell 4 rfl, trivial⟩, trivial⟩ 17 2 rfl (by kernel_rfl) (wn rfl) hr (.pointer (some ⟨B0, 0, none⟩)) (fun w => by kernel_rfl) ?_; clear hr a; intro a hr
    refine evD hgo ⟨⟨h.cell 3 rfl, trivial⟩, ⟨h.cell 4 rfl, trivial⟩, trivial⟩ 16 3 rfl (by kernel_rfl) (wn rfl) hr (.pointer (some ⟨B0, 3, none⟩)) (fun w => by kernel_rfl) ?_; clear hr a; intro a hr
    refine ev 15 5 rfl (by kernel_rfl) (wn rfl) hr (.pointer (some ⟨B0, 0, none⟩)) (fun w => by kernel_rfl) ?_; clear hr a; intro a hr
    refine evD hgo ⟨⟨h.cell 3 rfl, trivial⟩, ⟨h.cell 4 rfl, trivial⟩, trivial⟩ 14 6 rfl (by kernel_rfl) (wn rfl) hr (.pointer (some ⟨B0, 0, none⟩)) (fun w => by kernel_rfl) ?_; clear hr a; intro a hr
    refine evD hgo ⟨⟨h.cell 3 rfl, trivial⟩, ⟨h.cell 4 rfl, trivial⟩, trivial⟩ 13 7 rfl (by kernel_rfl) (wn rfl) hr (.pointer (some ⟨B0, 4, none⟩)) (fun w => by kernel_rfl) ?_; clear hr a; intro a hr
    refine ev 12 9 rfl (by kernel_rfl) (wn rfl) hr (.int .i64 p1) (fun w => by kernel_rfl) ?_; clear hr a; intro a hr
    refine ev 11 10 rfl (by kernel_rfl) (wn rfl) hr (.int .i64 p2) (fun w => by kernel_rfl) ?_; clear hr a; intro a hr
    refine ev 10 11 rfl (by kernel_rfl) (wn rfl) hr (.int .i64 p3) (fun w => by kernel_rfl) ?_; clear hr a; intro a hr
    refine ev 9 12 rfl (by kernel_rfl) (wn rfl) hr (.int .i64 p4) (fun w => by kernel_rfl) ?_; clear hr a; intro a hr
    refine ev 8 13 rfl (by kernel_rfl) (wn rfl) hr (.bool p5) (fun w => by kernel_rfl) ?_; clear hr a; intro a hr
    refine el [2, 3, 6, 7, 14] (b := B0) (off := 3) (cs := [.slice ca3 p0.log.length cc4]) (fun _ hk => ⟨hk, fun w hD => hD.1⟩) 7 4 rfl (by kernel_rfl) (wn rfl) hr (.slice ca3 p0.log.length cc4) ⟨h.cell 3 rfl, trivial⟩ (fun w hc => rl rfl (by kernel_rfl) (by kernel_rfl) hc.1) ?_; clear hr a; intro a hr
    refine el [2, 3, 6, 7, 14] (b := B0) (off := 4) (cs := [.int .i64 p0.actor]) (fun _ hk => ⟨hk, fun w hD => hD.2.1⟩) 6 8 rfl (by kernel_rfl) (wn rfl) hr (.int .i64 p0.actor) ⟨h.cell 4 rfl, trivial⟩ (fun w hc => rl rfl (by kernel_rfl) (by kernel_rfl) hc.1) ?_; clear hr a; intro a hr
    refine evD hgo ⟨⟨h.cell 3 rfl, trivial⟩, ⟨h.cell 4 rfl, trivial⟩, trivial⟩ 5 14 rfl (by kernel_rfl) (wn rfl) hr (.agg #[.int .i64 p0.actor, .int .i64 p1, .int .i64 p2, .int .i64 p3, .int .i64 p4, .bool p5]) (fun w => by kernel_rfl) ?_; clear hr a; intro a hr
    refine e_one (fuel := 4) (i := 15) (by kernel_rfl) rfl ?_
    refine op_new (wn rfl) rfl rfl hr h (vf := fun b => .slice (some ⟨b, 0, none⟩) 1 1) (cs := #[.int .i64 p0.actor, .int .i64 p1, .int .i64 p2, .int .i64 p3, .int .i64 p4, .bool p5]) (T := 96) (by kernel_rfl) ?_; clear h hr a; intro b6 w a h hr
    refine wpList_nil ?_; refine then_normal ?_
    refine ⟨fun hE => absurd hE (by decide), ?_⟩
    refine e_one (fuel := 3) (i := 16) (by kernel_rfl) rfl ?_
    replace h : Fit z (sepL (ro96 ca3 cc4 p0.log :: pts b6 (.cells #[.int .i64 p0.actor, .int .i64 p1, .int .i64 p2, .int .i64 p3, .int .i64 p4, .bool p5] 96) :: ob103 B0 p0 ca1 cc2 ca3 cc4 :: ro2 ca1 cc2 p0.cell :: L)) _ := h.sel 4 [3, 0, 1, 2] (by kernel_rfl) (by kernel_rfl)
    refine op_append (n0 := p0.log.length) (c := 1) (bytes := 48) (wn rfl) rfl rfl hr rfl (by kernel_rfl) (by kernel_rfl) enc_T_api_Access_ok (E := 96) (xs := p0.log) (by kernel_rfl) (by kernel_rfl) h (news := [(⟨p0.actor, p1, p2, p3, p4, p5⟩ : T_api_Access)]) (m := 1) rfl ((h.pick 1).news rfl) c9 rfl ?_; clear h hr a; intro ca7 cc8 w a h hr
    refine wpList_nil ?_; refine then_normal ?_
    replace h : Fit z (sepL (ro96 ca7 cc8 (p0.log ++ [(⟨p0.actor, p1, p2, p3, p4, p5⟩ : T_api_Access)]) :: pts b6 (.cells #[.int .i64 p0.actor, .int .i64 p1, .int .i64 p2, .int .i64 p3, .int .i64 p4, .bool p5] 96) :: ob103 B0 p0 ca1 cc2 ca3 cc4 :: ro2 ca1 cc2 p0.cell :: L)) _ := h
    refine ⟨fun hE => absurd hE (by decide), ?_⟩
    refine ev 2 17 rfl (by kernel_rfl) (wn rfl) hr (.pointer (some ⟨B0, 0, none⟩)) (fun w => by kernel_rfl) ?_; clear hr a; intro a hr
    refine ev 1 18 rfl (by kernel_rfl) (wn rfl) hr (.pointer (some ⟨B0, 3, none⟩)) (fun w => by kernel_rfl) ?_; clear hr a; intro a hr
    refine e_one (fuel := 0) (i := 19) (by kernel_rfl) rfl ?_
    replace h : Fit z (sepL (ob103 B0 p0 ca1 cc2 ca3 cc4 :: ro96 ca7 cc8 (p0.log ++ [(⟨p0.actor, p1, p2, p3, p4, p5⟩ : T_api_Access)]) :: pts b6 (.cells #[.int .i64 p0.actor, .int .i64 p1, .int .i64 p2, .int .i64 p3, .int .i64 p4, .bool p5] 96) :: ro2 ca1 cc2 p0.cell :: L)) _ := h.sel 4 [2, 0, 1, 3] (by kernel_rfl) (by kernel_rfl)
    refine op_store (wn rfl) rfl hr rfl (by kernel_rfl) (by kernel_rfl) (v := .slice ca7 ((p0.log ++ [(⟨p0.actor, p1, p2, p3, p4, p5⟩ : T_api_Access)]).length) cc8) rfl rfl (by kernel_rfl) h (i := 3) rfl ?_; clear h; intro w h
    refine wpList_nil ?_; refine then_normal ?_
    replace h : Fit z (sepL (pts B0 (.cells #[.int .i64 p0.ledger_size, .int .i64 p0.ledger_mark, .slice ca1 p0.cell.length cc2, .slice ca7 ((p0.log ++ [(⟨p0.actor, p1, p2, p3, p4, p5⟩ : T_api_Access)]).length) cc8, .int .i64 p0.actor, .bool p0.watched] 103) :: ro96 ca7 cc8 (p0.log ++ [(⟨p0.actor, p1, p2, p3, p4, p5⟩ : T_api_Access)]) :: pts b6 (.cells #[.int .i64 p0.actor, .int .i64 p1, .int .i64 p2, .int .i64 p3, .int .i64 p4, .bool p5] 96) :: ro2 ca1 cc2 p0.cell :: L)) _ := h
    refine ⟨fun hE => absurd hE (by decide), ?_⟩
    refine e_end (by kernel_rfl) ?_
    refine end_norm0 rfl hr ?_
    replace h : Fit z (sepL (pts B0 (.cells #[.int .i64 p0.ledger_size, .int .i64 p0.ledger_mark, .slice ca1 p0.cell.length cc2, .slice ca7 ((p0.log ++ [(⟨p0.actor, p1, p2, p3, p4, p5⟩ : T_api_Access)]).length) cc8, .int .i64 p0.actor, .bool p0.watched] 103) :: ro2 ca1 cc2 p0.cell :: ro96 ca7 cc8 (p0.log ++ [(⟨p0.actor, p1, p2, p3, p4, p5⟩ : T_api_Access)]) :: L)) _ := h.sel 4 [0, 3, 1] (by kernel_rfl) (by kernel_rfl)
    replace H := ej1 H; subst H
    exact ⟨ca1, cc2, ca7, cc8, rfl, h⟩
  ·
    replace H := ifF c5 H
    refine cond_ff hr (b := p0.watched) (bF c5) ?_
    refine wp_skip ?_
    refine end_norm0 rfl hr ?_
    replace H := ej1 H; subst H
    exact ⟨ca1, cc2, ca3, cc4, rfl, h⟩

/-- (*plunder/cells.Arena).Reserve -/
def cells_Arena_Reserve (p0 : T_cells_Arena) (p1 : Int) : Option (Int × Int × T_cells_Arena) :=
  ob0 (some ()) (ob1 (cells_ledger_refuse p0 p1) (fun r7 => (if r7 = (0 : Int) then ob2 (cells_ledger_take p0 p1) (fun r10 S11 => if 0 ≤ p1 ∧ (S11.cell.length + p1.toNat) * 8 ≤ 140737488355328 then ob1 (cells_Arena_note ({ S11 with cell := S11.cell ++ List.replicate p1.toNat (0 : Int) }) 4 r10 p1 0 true) (fun S20 => some (r10, 0, S20)) else none) else some (0, r7, p0))))
set_option maxRecDepth 100000 in
set_option maxHeartbeats 4000000 in
theorem cells_Arena_Reserve_ok {z w : World} {L : List HProp} {p0 : T_cells_Arena} {p1 : Int} {B0 : Nat} {ca1 : Option Addr} {cc2 : Nat} {ca3 : Option Addr} {cc4 : Nat} {r0 : Int} {r1 : Int} {q0 : T_cells_Arena} (H : cells_Arena_Reserve p0 p1 = some (r0, r1, q0)) (h : Fit z (sepL (ob103 B0 p0 ca1 cc2 ca3 cc4 :: ro2 ca1 cc2 p0.cell :: ro96 ca3 cc4 p0.log :: L)) w)  :
    Calls Try.prog 35 #[.pointer (some ⟨B0, 0, none⟩), .int .i64 p1] w fun e w => ∃ caq0_1 : Option Addr, ∃ ccq0_2 : Nat, ∃ caq0_3 : Option Addr, ∃ ccq0_4 : Nat, e = .returned (.tuple #[.int .i64 r0, .int .i64 r1]) ∧ Fit z (sepL (ob103 B0 q0 caq0_1 ccq0_2 caq0_3 ccq0_4 :: ro2 caq0_1 ccq0_2 q0.cell :: ro96 caq0_3 ccq0_4 q0.log :: L)) w := by
  unfold cells_Arena_Reserve at H
  refine enter Try.func35 rfl 37 rfl rfl [(0, .pointer (some ⟨B0, 0, none⟩)), (1, .int .i64 p1)] ⟨rfl, rfl, trivial⟩ ?_
  intro j a hr
  refine wp_seq ?_
  refine wp_region_lit ?_
  refine ovs [4, 5] [.int .i64 0, .int .i64 0] hr ⟨rfl, rfl⟩ (by kernel_rfl) ?_; clear hr a; intro a hr
  refine wpList_nil ?_
  refine then_normal ?_
  refine wp_seq ?_
  refine wp_region_lit ?_
  refine ov hr (.pointer none) (by kernel_rfl) ?_; clear hr a; intro a hr
  refine wpList_nil ?_
  refine then_normal ?_
  replace H := kd0 H; obtain ⟨o6, H, hK5⟩ := H
  refine cut_rule (β := Unit) (fun _ a w => () = o6 ∧ ∃ j, Rep 37 (lk [(0, .pointer (some ⟨B0, 0, none⟩)), (1, .int .i64 p1), (6, .pointer (some ⟨B0, 0, none⟩))] j) a ∧ Fit z (sepL (ob103 B0 p0 ca1 cc2 ca3 cc4 :: ro2 ca1 cc2 p0.cell :: ro96 ca3 cc4 p0.log :: L)) w) ?_ ?_
  ·
    refine wp_seq ?_
    refine wp_region_lit ?_
    refine ovs [9, 10] [.pointer (some ⟨B0, 0, none⟩), .bool true] hr ⟨rfl, rfl⟩ (by kernel_rfl) ?_; clear hr a; intro a hr
    refine wpList_nil ?_
    refine then_normal ?_
    refine cond_tt hr (b := true) rfl ?_
    refine wp_region_lit ?_
    refine ovs [11, 12, 13, 6] [.pointer (some ⟨B0, 0, none⟩), .pointer (some ⟨B0, 0, none⟩), .pointer (some ⟨B0, 0, none⟩), .pointer (some ⟨B0, 0, none⟩)] hr ⟨rfl, rfl⟩ (by kernel_rfl) ?_; clear hr a; intro a hr
    refine wpList_nil ?_
    refine then_normal ?_
    replace hr := hr.fold2 [(0, .pointer (some ⟨B0, 0, none⟩)), (1, .int .i64 p1), (6, .pointer (some ⟨B0, 0, none⟩))] (by kernel_rfl); obtain ⟨j, hr⟩ := hr
    exact ⟨(), sinj H, j, hr, h⟩
  clear h hr a; rintro _ a w ⟨rfl, j, hr, h⟩
  replace H := kk0 hK5
  refine wp_seq ?_
  refine wp_seq ?_
  refine wp_region_lit ?_
  replace H := bd1 H; obtain ⟨r7, e8, H⟩ := H
  refine ovs [14, 15] [.pointer (some ⟨B0, 0, none⟩), .int .i64 p1] hr ⟨rfl, rfl⟩ (by kernel_rfl) ?_; clear hr a; intro a hr
  have hc := cells_ledger_refuse_ok (H := e8) (h := h)
  refine op_call (wn rfl) rfl rfl hr (f := 61) (args := #[.pointer (some ⟨B0, 0, none⟩), .int .i64 p1]) (by kernel_rfl) hc ?_; clear hc h
  rintro _ w ⟨rfl, h⟩; refine ⟨_, rfl, ?_⟩
  clear hr a; intro a hr
  refine ov hr (.int .i64 r7) (by kernel_rfl) ?_; clear hr a; intro a hr
  refine wpList_nil ?_
  refine then_normal ?_
  refine wp_seq ?_
  refine wp_region_lit ?_
  refine ovs [17, 18] [.int .i64 r7, .bool (r7 != (0 : Int))] hr ⟨rfl, rfl⟩ (by kernel_rfl) ?_; clear hr a; intro a hr
  refine wpList_nil ?_
  refine then_normal ?_
  by_cases c9 : r7 = (0 : Int)
  ·
    replace H := ifT c9 H
    refine cond_ff hr (b := (r7 != (0 : Int))) (bne_eq_false_iff_eq.mpr c9) ?_
    refine wp_skip ?_
    refine then_normal ?_
    refine wp_seq ?_
    refine wp_region_lit ?_
    replace H := bd2 H; obtain ⟨r10, S11, e12, H⟩ := H
    refine ovs [20, 21] [.pointer (some ⟨B0, 0, none⟩), .int .i64 p1] hr ⟨rfl, rfl⟩ (by kernel_rfl) ?_; clear hr a; intro a hr
    have hc := cells_ledger_take_ok (H := e12) (h := h)
    refine op_call (wn rfl) rfl rfl hr (f := 62) (args := #[.pointer (some ⟨B0, 0, none⟩), .int .i64 p1]) (by kernel_rfl) hc ?_; clear hc h
    rintro _ w ⟨caq13, ccq14, caq15, ccq16, rfl, h⟩; refine ⟨_, rfl, ?_⟩
    clear hr a; intro a hr
    refine ov hr (.int .i64 r10) (by kernel_rfl) ?_; clear hr a; intro a hr
    refine wpList_nil ?_
    refine then_normal ?_
    refine wp_seq ?_
    refine wp_region_lit ?_
    refine ovs [23, 24, 25, 26] [.pointer (some ⟨B0, 0, none⟩), .pointer (some ⟨B0, 0, none⟩), .pointer (some ⟨B0, 0, none⟩), .pointer (some ⟨B0, 2, none⟩)] hr ⟨rfl, rfl⟩ (by kernel_rfl) ?_; clear hr a; intro a hr
    refine op_val (wn rfl) rfl rfl hr (v := .slice caq13 S11.cell.length ccq14) (rl rfl (by kernel_rfl) (by kernel_rfl) (h.cell 2 rfl)) ?_; clear hr a; intro a hr
    refine ov hr (.int .i64 p1) (by kernel_rfl) ?_; clear hr a; intro a hr
    replace h : Fit z (sepL (ro2 caq13 ccq14 S11.cell :: ob103 B0 S11 caq13 ccq14 caq15 ccq16 :: ro96 caq15 ccq16 S11.log :: L)) _ := h.sel 3 [1, 0, 2] (by kernel_rfl) (by kernel_rfl)
    replace H := gd H; obtain ⟨c19, H⟩ := H
    refine op_extend (kx := .i64) (n0 := S11.cell.length) (i := p1) (m := p1.toNat) (bytes := 8) (zc := #[.int .i64 0]) (0 : Int) (wn rfl) rfl rfl hr rfl (by kernel_rfl) (by kernel_rfl) (Int.toNat_of_nonneg c19.1).symm encZ_i64_ok (E := 2) (xs := S11.cell) (by kernel_rfl) (by kernel_rfl) (by kernel_rfl) rfl h c19.2 rfl ?_; clear h hr a; intro ca17 cc18 w a h hr
    refine ovs [30, 31] [.pointer (some ⟨B0, 0, none⟩), .pointer (some ⟨B0, 2, none⟩)] hr ⟨rfl, rfl⟩ (by kernel_rfl) ?_; clear hr a; intro a hr
    replace h : Fit z (sepL (ob103 B0 S11 caq13 ccq14 caq15 ccq16 :: ro2 ca17 cc18 (S11.cell ++ List.replicate p1.toNat (0 : Int)) :: ro96 caq15 ccq16 S11.log :: L)) _ := h.sel 3 [1, 0, 2] (by kernel_rfl) (by kernel_rfl)
    refine op_store (wn rfl) rfl hr rfl (by kernel_rfl) (by kernel_rfl) (v := .slice ca17 ((S11.cell ++ List.replicate p1.toNat (0 : Int)).length) cc18) rfl rfl (by kernel_rfl) h (i := 2) rfl ?_; clear h; intro w h
    refine wpList_nil ?_
    replace h : Fit z (sepL (pts B0 (.cells #[.int .i64 S11.ledger_size, .int .i64 S11.ledger_mark, .slice ca17 ((S11.cell ++ List.replicate p1.toNat (0 : Int)).length) cc18, .slice caq15 S11.log.length ccq16, .int .i64 S11.actor, .bool S11.watched] 103) :: ro2 ca17 cc18 (S11.cell ++ List.replicate p1.toNat (0 : Int)) :: ro96 caq15 ccq16 S11.log :: L)) _ := h
    refine then_normal ?_
    refine wp_seq ?_
    refine wp_region_lit ?_
    replace H := bd1 H; obtain ⟨S20, e21, H⟩ := H
    refine ovs [32, 33, 34] [.pointer (some ⟨B0, 0, none⟩), .int .i64 r10, .int .i64 p1] hr ⟨rfl, rfl⟩ (by kernel_rfl) ?_; clear hr a; intro a hr
    have hc := cells_Arena_note_ok (H := e21) (h := h)
    refine op_call (wn rfl) rfl rfl hr (f := 63) (args := #[.pointer (some ⟨B0, 0, none⟩), .int .i64 4, .int .i64 r10, .int .i64 p1, .int .i64 0, .bool true]) (by kernel_rfl) hc ?_; clear hc h
    rintro _ w ⟨caq22, ccq23, caq24, ccq25, rfl, h⟩; refine ⟨_, rfl, ?_⟩
    clear hr a; intro a hr
    refine wpList_nil ?_
    refine then_normal ?_
    refine wp_seq ?_
    refine wp_region_lit ?_
    refine ovs [36, 4, 5] [.int .i64 r10, .int .i64 r10, .int .i64 0] hr ⟨rfl, rfl⟩ (by kernel_rfl) ?_; clear hr a; intro a hr
    refine wpList_nil ?_
    refine then_normal ?_
    refine wp_ret ?_
    refine end_ret2 (v := .int .i64 r10) (v' := .int .i64 0) rfl hr (by kernel_rfl) (by kernel_rfl) ?_
    replace H := ej3 H; obtain ⟨rfl, rfl, rfl⟩ := H
    exact ⟨caq22, ccq23, caq24, ccq25, rfl, h⟩
  ·
    replace H := ifF c9 H
    refine cond_tt hr (b := (r7 != (0 : Int))) (bne_iff_ne.mpr c9) ?_
    refine wp_seq ?_
    refine wp_region_lit ?_
    refine ovs [19, 4, 5] [.int .i64 r7, .int .i64 0, .int .i64 r7] hr ⟨rfl, rfl⟩ (by kernel_rfl) ?_; clear hr a; intro a hr
    refine wpList_nil ?_
    refine then_normal ?_
    refine wp_ret ?_
    refine then_ret ?_
    refine end_ret2 (v := .int .i64 0) (v' := .int .i64 r7) rfl hr (by kernel_rfl) (by kernel_rfl) ?_
    replace H := ej3 H; obtain ⟨rfl, rfl, rfl⟩ := H
    exact ⟨ca1, cc2, ca3, cc4, rfl, h⟩

def plunderref8_New_l1 (K : Nat) (p1 : Int) (r9 : T_api_Effect) : Nat → T_plunderref2_Arena → Int → Option (T_plunderref2_Arena)
  | 0, _, _ => none
  | k1 + 1, S25, g30 => (if g30 < p1 then ob2 (plunderref2_Arena_Do K S25 (⟨0, 1, wi ((wi (r9.V + (1 : Int))) + (wi (g30 * (10 : Int)))), 1, 0⟩ : T_api_Act)) (fun r32 S33 => (plunderref8_New_l1 K p1 r9 k1 S33 (wi (g30 + (1 : Int))))) else some S25)
/-- plunder/plunderref8.New -/
def plunderref8_New (K : Nat) (p0 : T_plunderref2_Arena) (p1 : Int) : Option (T_plunderref8_Table × Int × T_plunderref2_Arena) :=
  ob1 (plunderref8_Cells p1) (fun r6 => (if r6 = (0 : Int) then some ((⟨0, 0⟩ : T_plunderref8_Table), 3, p0) else ob2 (plunderref2_Arena_Do K p0 (⟨0, 4, 0, r6, 0⟩ : T_api_Act)) (fun r9 S10 => (if r9.Err = (0 : Int) then ob1 ((plunderref8_New_l1 K p1 r9 K S10 0)) (fun S18 => some ((⟨r9.V, p1⟩ : T_plunderref8_Table), 0, S18)) else some ((⟨0, 0⟩ : T_plunderref8_Table), r9.Err, S10)))))
set_option maxRecDepth 100000 in
set_option maxHeartbeats 4000000 in
theorem plunderref8_New_ok {z w : World} {L : List HProp} {K : Nat} {p0 : T_plunderref2_Arena} {p1 : Int} {B0 : Nat} {ca1 : Option Addr} {cc2 : Nat} {ca3 : Option Addr} {cc4 : Nat} {r0 : T_plunderref8_Table} {r1 : Int} {q0 : T_plunderref2_Arena} (H : plunderref8_New K p0 p1 = some (r0, r1, q0)) (h : Fit z (sepL (ob34 B0 p0 ca1 cc2 ca3 cc4 :: ro2 ca1 cc2 p0.Held :: ro96 ca3 cc4 p0.Book :: L)) w)  :
    Calls Try.prog 18 #[.pointer (some ⟨B0, 0, none⟩), .int .i64 p1] w fun e w => ∃ caq0_1 : Option Addr, ∃ ccq0_2 : Nat, ∃ caq0_3 : Option Addr, ∃ ccq0_4 : Nat, e = .returned (.tuple #[.agg #[.int .i64 r0.Base, .int .i64 r0.Frames], .int .i64 r1]) ∧ Fit z (sepL (ob34 B0 q0 caq0_1 ccq0_2 caq0_3 ccq0_4 :: ro2 caq0_1 ccq0_2 q0.Held :: ro96 caq0_3 ccq0_4 q0.Book :: L)) w := by
  unfold plunderref8_New at H
  refine enter Try.func18 rfl 43 rfl rfl [(0, .pointer (some ⟨B0, 0, none⟩)), (1, .int .i64 p1)] ⟨rfl, rfl, trivial⟩ ?_
  intro j a hr
  refine wp_seq ?_
  refine wp_region_lit ?_
  refine op_new (wn rfl) rfl rfl hr h (vf := fun b => .pointer (some ⟨b, 0, none⟩)) (cs := #[.int .i64 0, .int .i64 0]) (T := 36) (by kernel_rfl) ?_; clear h hr a; intro b5 w a h hr
  refine ov hr (.int .i64 0) (by kernel_rfl) ?_; clear hr a; intro a hr
  refine wpList_nil ?_
  refine then_normal ?_
  refine wp_seq ?_
  refine wp_region_lit ?_
  replace H := bd1 H; obtain ⟨r6, e7, H⟩ := H
  refine ov hr (.int .i64 p1) (by kernel_rfl) ?_; clear hr a; intro a hr
  have hc := plunderref8_Cells_ok (H := e7) (h := h)
  refine op_call (wn rfl) rfl rfl hr (f := 16) (args := #[.int .i64 p1]) (by kernel_rfl) hc ?_; clear hc h
  rintro _ w ⟨rfl, h⟩; refine ⟨_, rfl, ?_⟩
  clear hr a; intro a hr
  refine ov hr (.int .i64 r6) (by kernel_rfl) ?_; clear hr a; intro a hr
  refine wpList_nil ?_
  refine then_normal ?_
  refine wp_seq ?_
  refine wp_seq ?_
  refine wp_region_lit ?_
  refine ovs [12, 13] [.int .i64 r6, .bool (r6 == (0 : Int))] hr ⟨rfl, rfl⟩ (by kernel_rfl) ?_; clear hr a; intro a hr
  refine wpList_nil ?_
  refine then_normal ?_
  by_cases c8 : r6 = (0 : Int)
  ·
    replace H := ifT c8 H
    refine cond_tt hr (b := (r6 == (0 : Int))) (beq_iff_eq.mpr c8) ?_
    refine wp_seq ?_
    refine wp_region_lit ?_
    refine ov hr (.agg #[.int .i64 0, .int .i64 0]) (by kernel_rfl) ?_; clear hr a; intro a hr
    refine op_stores (wn rfl) rfl hr rfl (by kernel_rfl) (by kernel_rfl) (vs := [.int .i64 0, .int .i64 0]) rfl rfl (by kernel_rfl) h (i := 0) (cs' := #[.int .i64 0, .int .i64 0]) rfl ?_; clear h; intro w h
    refine ov hr (.int .i64 3) (by kernel_rfl) ?_; clear hr a; intro a hr
    refine wpList_nil ?_
    replace h : Fit z (sepL (pts b5 (.cells #[.int .i64 0, .int .i64 0] 36) :: ob34 B0 p0 ca1 cc2 ca3 cc4 :: ro2 ca1 cc2 p0.Held :: ro96 ca3 cc4 p0.Book :: L)) _ := h
    refine then_normal ?_
    refine wp_ret ?_
    refine then_ret ?_
    refine end_retCT (cs := [.int .i64 0, .int .i64 0]) (v := .int .i64 3) rfl hr (by kernel_rfl) (by kernel_rfl) (by kernel_rfl) (by kernel_rfl) ⟨h.cell 0 rfl, h.cell 1 rfl, trivial⟩ ?_
    replace h : Fit z (sepL (ob34 B0 p0 ca1 cc2 ca3 cc4 :: ro2 ca1 cc2 p0.Held :: ro96 ca3 cc4 p0.Book :: L)) _ := h.sel 4 [1, 2, 3] (by kernel_rfl) (by kernel_rfl)
    replace H := ej3 H; obtain ⟨rfl, rfl, rfl⟩ := H
    exact ⟨ca1, cc2, ca3, cc4, rfl, h⟩
  ·
    replace H := ifF c8 H
    refine cond_ff hr (b := (r6 == (0 : Int))) (beq_eq_false_iff_ne.mpr c8) ?_
    refine wp_skip ?_
    refine then_normal ?_
    refine wp_seq ?_
    refine wp_region_lit ?_
    replace H := bd2 H; obtain ⟨r9, S10, e11, H⟩ := H
    refine ovs [15, 16, 17] [.pointer (some ⟨B0, 0, none⟩), .int .i64 r6, .agg #[.int .i64 0, .int .i64 4, .int .i64 0, .int .i64 r6, .int .i64 0]] hr ⟨rfl, rfl⟩ (by kernel_rfl) ?_; clear hr a; intro a hr
    replace h : Fit z (sepL (ob34 B0 p0 ca1 cc2 ca3 cc4 :: ro2 ca1 cc2 p0.Held :: ro96 ca3 cc4 p0.Book :: pts b5 (.cells #[.int .i64 0, .int .i64 0] 36) :: L)) _ := h.sel 4 [1, 2, 3, 0] (by kernel_rfl) (by kernel_rfl)
    have hc := plunderref2_Arena_Do_ok (H := e11) (h := h)
    refine op_call (wn rfl) rfl rfl hr (f := 34) (args := #[.pointer (some ⟨B0, 0, none⟩), .agg #[.int .i64 0, .int .i64 4, .int .i64 0, .int .i64 r6, .int .i64 0]]) (by kernel_rfl) hc ?_; clear hc h
    rintro _ w ⟨caq12, ccq13, caq14, ccq15, rfl, h⟩; refine ⟨_, rfl, ?_⟩
    clear hr a; intro a hr
    refine op_new (wn rfl) rfl rfl hr h (vf := fun b => .pointer (some ⟨b, 0, none⟩)) (cs := #[.int .i64 0, .bool false, .int .i64 0]) (T := 66) (by kernel_rfl) ?_; clear h hr a; intro b16 w a h hr
    refine op_stores (wn rfl) rfl hr rfl (by kernel_rfl) (by kernel_rfl) (vs := [.int .i64 r9.V, .bool r9.OK, .int .i64 r9.Err]) rfl rfl (by kernel_rfl) h (i := 0) (cs' := #[.int .i64 r9.V, .bool r9.OK, .int .i64 r9.Err]) rfl ?_; clear h; intro w h
    refine wpList_nil ?_
    replace h : Fit z (sepL (ob66 b16 r9 :: ob34 B0 S10 caq12 ccq13 caq14 ccq15 :: ro2 caq12 ccq13 S10.Held :: ro96 caq14 ccq15 S10.Book :: pts b5 (.cells #[.int .i64 0, .int .i64 0] 36) :: L)) _ := h
    refine then_normal ?_
    refine wp_seq ?_
    refine wp_seq ?_
    refine wp_region_lit ?_
    refine ov hr (.pointer (some ⟨b16, 2, none⟩)) (by kernel_rfl) ?_; clear hr a; intro a hr
    refine op_val (wn rfl) rfl rfl hr (v := .int .i64 r9.Err) (rl rfl (by kernel_rfl) (by kernel_rfl) (h.cell 2 rfl)) ?_; clear hr a; intro a hr
    refine ov hr (.bool (r9.Err != (0 : Int))) (by kernel_rfl) ?_; clear hr a; intro a hr
    refine wpList_nil ?_
    refine then_normal ?_
    by_cases c17 : r9.Err = (0 : Int)
    ·
      replace H := ifT c17 H
      refine cond_ff hr (b := (r9.Err != (0 : Int))) (bne_eq_false_iff_eq.mpr c17) ?_
      refine wp_skip ?_
      refine then_normal ?_
      refine wp_seq ?_
      refine wp_region_lit ?_
      refine ov hr (.pointer (some ⟨b16, 0, none⟩)) (by kernel_rfl) ?_; clear hr a; intro a hr
      refine op_val (wn rfl) rfl rfl hr (v := .int .i64 r9.V) (rl rfl (by kernel_rfl) (by kernel_rfl) (h.cell 0 rfl)) ?_; clear hr a; intro a hr
      refine ov hr (.int .i64 r9.V) (by kernel_rfl) ?_; clear hr a; intro a hr
      refine wpList_nil ?_
      refine then_normal ?_
      replace H := kd1 H; obtain ⟨o24, H, hK23⟩ := H
      refine cut_rule (β := Unit) (fun _ a w => ∃ ca19 : Option Addr, ∃ cc20 : Nat, ∃ ca21 : Option Addr, ∃ cc22 : Nat, ∃ S18 : T_plunderref2_Arena, S18 = o24 ∧ ∃ j, Rep 43 (lk [(1, .int .i64 p1), (4, .pointer (some ⟨b5, 0, none⟩)), (8, .int .i64 r9.V)] j) a ∧ Fit z (sepL (pts b5 (.cells #[.int .i64 0, .int .i64 0] 36) :: ob34 B0 S18 ca19 cc20 ca21 cc22 :: ro2 ca19 cc20 S18.Held :: ro96 ca21 cc22 S18.Book :: L)) w) ?_ ?_
      ·
        refine wp_seq ?_
        refine wp_region_lit ?_
        refine ov hr (.int .i64 0) (by kernel_rfl) ?_; clear hr a; intro a hr
        refine wpList_nil ?_
        refine then_normal ?_
        refine wp_block ?_
        replace hr := hr.fold2 [(0, .pointer (some ⟨B0, 0, none⟩)), (1, .int .i64 p1), (4, .pointer (some ⟨b5, 0, none⟩)), (8, .int .i64 r9.V), (9, .int .i64 0)] (by kernel_rfl); obtain ⟨j, hr⟩ := hr
        replace h : Fit z (sepL (ob34 B0 S10 caq12 ccq13 caq14 ccq15 :: ro2 caq12 ccq13 S10.Held :: ro96 caq14 ccq15 S10.Book :: pts b5 (.cells #[.int .i64 0, .int .i64 0] 36) :: L)) _ := h.sel 5 [1, 2, 3, 4] (by kernel_rfl) (by kernel_rfl)
        refine loop_rule (β := Nat) id (fun m a w => ∃ ca26 : Option Addr, ∃ cc27 : Nat, ∃ ca28 : Option Addr, ∃ cc29 : Nat, ∃ S25 : T_plunderref2_Arena, ∃ g30 : Int, (plunderref8_New_l1 K p1 r9 m S25 g30) = some o24 ∧ ∃ j, Rep 43 (lk [(0, .pointer (some ⟨B0, 0, none⟩)), (1, .int .i64 p1), (4, .pointer (some ⟨b5, 0, none⟩)), (8, .int .i64 r9.V), (9, .int .i64 g30)] j) a ∧ Fit z (sepL (ob34 B0 S25 ca26 cc27 ca28 cc29 :: ro2 ca26 cc27 S25.Held :: ro96 ca28 cc29 S25.Book :: pts b5 (.cells #[.int .i64 0, .int .i64 0] 36) :: L)) w) K ⟨caq12, ccq13, caq14, ccq15, S10, 0, H, j, hr, h⟩ ?_
        clear h hr a H; rintro k1 a w ⟨ca26, cc27, ca28, cc29, S25, g30, H, j, hr, h⟩
        cases k1 with
        | zero => exact absurd H (by simp [plunderref8_New_l1])
        | succ k1 =>
          rw [plunderref8_New_l1] at H
          refine wp_seq ?_
          refine wp_seq ?_
          refine wp_region_lit ?_
          refine ovs [27, 28, 29] [.int .i64 g30, .int .i64 p1, .bool (decide (g30 < p1))] hr ⟨rfl, rfl⟩ (by kernel_rfl) ?_; clear hr a; intro a hr
          refine wpList_nil ?_
          refine then_normal ?_
          by_cases c31 : g30 < p1
          ·
            replace H := ifT c31 H
            refine cond_tt hr (b := (decide (g30 < p1))) (decide_eq_true c31) ?_
            refine wp_skip ?_
            refine then_normal ?_
            refine wp_seq ?_
            refine wp_block ?_
            refine wp_region_lit ?_
            replace H := bd2 H; obtain ⟨r32, S33, e34, H⟩ := H
            refine ovs [32, 33, 34, 35, 36, 37, 38] [.pointer (some ⟨B0, 0, none⟩), .int .i64 r9.V, .int .i64 (wi (r9.V + (1 : Int))), .int .i64 g30, .int .i64 (wi (g30 * (10 : Int))), .int .i64 (wi ((wi (r9.V + (1 : Int))) + (wi (g30 * (10 : Int))))), .agg #[.int .i64 0, .int .i64 1, .int .i64 (wi ((wi (r9.V + (1 : Int))) + (wi (g30 * (10 : Int))))), .int .i64 1, .int .i64 0]] hr ⟨rfl, rfl⟩ (by kernel_rfl) ?_; clear hr a; intro a hr
            have hc := plunderref2_Arena_Do_ok (H := e34) (h := h)
            refine op_call (wn rfl) rfl rfl hr (f := 34) (args := #[.pointer (some ⟨B0, 0, none⟩), .agg #[.int .i64 0, .int .i64 1, .int .i64 (wi ((wi (r9.V + (1 : Int))) + (wi (g30 * (10 : Int))))), .int .i64 1, .int .i64 0]]) (by kernel_rfl) hc ?_; clear hc h
            rintro _ w ⟨caq35, ccq36, caq37, ccq38, rfl, h⟩; refine ⟨_, rfl, ?_⟩
            clear hr a; intro a hr
            refine wpList_nil ?_
            refine blk_normal ?_
            refine then_normal ?_
            refine wp_region_lit ?_
            refine ovs [30, 31, 9] [.int .i64 g30, .int .i64 (wi (g30 + (1 : Int))), .int .i64 (wi (g30 + (1 : Int)))] hr ⟨rfl, rfl⟩ (by kernel_rfl) ?_; clear hr a; intro a hr
            refine wpList_nil ?_
            refine then_normal ?_
            replace hr := hr.fold2 [(0, .pointer (some ⟨B0, 0, none⟩)), (1, .int .i64 p1), (4, .pointer (some ⟨b5, 0, none⟩)), (8, .int .i64 r9.V), (9, .int .i64 (wi (g30 + (1 : Int))))] (by kernel_rfl); obtain ⟨j, hr⟩ := hr
            exact ⟨_, ⟨caq35, ccq36, caq37, ccq38, S33, (wi (g30 + (1 : Int))), H, j, hr, h⟩, Nat.lt_succ_self _⟩
          ·
            replace H := ifF c31 H
            refine cond_ff hr (b := (decide (g30 < p1))) (decide_eq_false c31) ?_
            refine wp_exit ?_
            refine then_exit ?_
            refine then_exit ?_
            refine blk_here ?_
            refine then_normal ?_
            replace hr := hr.fold2 [(1, .int .i64 p1), (4, .pointer (some ⟨b5, 0, none⟩)), (8, .int .i64 r9.V)] (by kernel_rfl); obtain ⟨j, hr⟩ := hr
            replace h : Fit z (sepL (pts b5 (.cells #[.int .i64 0, .int .i64 0] 36) :: ob34 B0 S25 ca26 cc27 ca28 cc29 :: ro2 ca26 cc27 S25.Held :: ro96 ca28 cc29 S25.Book :: L)) _ := h.sel 4 [3, 0, 1, 2] (by kernel_rfl) (by kernel_rfl)
            exact ⟨(), ca26, cc27, ca28, cc29, S25, sinj H, j, hr, h⟩
      clear h hr a; rintro _ a w ⟨ca19, cc20, ca21, cc22, S18, rfl, j, hr, h⟩
      replace H := kk1 hK23
      refine wp_seq ?_
      refine wp_region_lit ?_
      refine ovs [40, 41, 42] [.int .i64 r9.V, .int .i64 p1, .agg #[.int .i64 r9.V, .int .i64 p1]] hr ⟨rfl, rfl⟩ (by kernel_rfl) ?_; clear hr a; intro a hr
      refine op_stores (wn rfl) rfl hr rfl (by kernel_rfl) (by kernel_rfl) (vs := [.int .i64 r9.V, .int .i64 p1]) rfl rfl (by kernel_rfl) h (i := 0) (cs' := #[.int .i64 r9.V, .int .i64 p1]) rfl ?_; clear h; intro w h
      refine ov hr (.int .i64 0) (by kernel_rfl) ?_; clear hr a; intro a hr
      refine wpList_nil ?_
      replace h : Fit z (sepL (pts b5 (.cells #[.int .i64 r9.V, .int .i64 p1] 36) :: ob34 B0 S18 ca19 cc20 ca21 cc22 :: ro2 ca19 cc20 S18.Held :: ro96 ca21 cc22 S18.Book :: L)) _ := h
      refine then_normal ?_
      refine wp_ret ?_
      refine end_retCT (cs := [.int .i64 r9.V, .int .i64 p1]) (v := .int .i64 0) rfl hr (by kernel_rfl) (by kernel_rfl) (by kernel_rfl) (by kernel_rfl) ⟨h.cell 0 rfl, h.cell 1 rfl, trivial⟩ ?_
      replace h : Fit z (sepL (ob34 B0 S18 ca19 cc20 ca21 cc22 :: ro2 ca19 cc20 S18.Held :: ro96 ca21 cc22 S18.Book :: L)) _ := h.sel 4 [1, 2, 3] (by kernel_rfl) (by kernel_rfl)
      replace H := ej3 H; obtain ⟨rfl, rfl, rfl⟩ := H
      exact ⟨ca19, cc20, ca21, cc22, rfl, h⟩
    ·
      replace H := ifF c17 H
      refine cond_tt hr (b := (r9.Err != (0 : Int))) (bne_iff_ne.mpr c17) ?_
      refine wp_seq ?_
      refine reg_E (fun w => heldC w b16 2 [.int .i64 r9.Err] ∧ True) [0, 1, 3] h (by kernel_rfl) ?_; intro w h
      change wpAnyE _ _ _ _ _ _ 5 (Array.replicate 5 false) a w
      have hgo : ∀ w w', CellsGo w w' → (heldC w b16 2 [.int .i64 r9.Err] ∧ True) → heldC w' b16 2 [.int .i64 r9.Err] ∧ True := fun w w' g hD => ⟨heldC_go _ _ _ _ _ g hD.1, trivial⟩
      refine evD hgo ⟨⟨h.cell 2 rfl, trivial⟩, trivial⟩ 4 0 rfl (by kernel_rfl) (wn rfl) hr (.agg #[.int .i64 0, .int .i64 0]) (fun w => by kernel_rfl) ?_; clear hr a; intro a hr
      refine evD hgo ⟨⟨h.cell 2 rfl, trivial⟩, trivial⟩ 3 1 rfl (by kernel_rfl) (wn rfl) hr (.pointer (some ⟨b16, 2, none⟩)) (fun w => by kernel_rfl) ?_; clear hr a; intro a hr
      refine el [0, 1, 3] (b := b16) (off := 2) (cs := [.int .i64 r9.Err]) (fun _ hk => ⟨hk, fun w hD => hD.1⟩) 2 2 rfl (by kernel_rfl) (wn rfl) hr (.int .i64 r9.Err) ⟨h.cell 2 rfl, trivial⟩ (fun w hc => rl rfl (by kernel_rfl) (by kernel_rfl) hc.1) ?_; clear hr a; intro a hr
      refine e_one (fuel := 1) (i := 3) (by kernel_rfl) rfl ?_
      replace h : Fit z (sepL (pts b5 (.cells #[.int .i64 0, .int .i64 0] 36) :: ob66 b16 r9 :: ob34 B0 S10 caq12 ccq13 caq14 ccq15 :: ro2 caq12 ccq13 S10.Held :: ro96 caq14 ccq15 S10.Book :: L)) _ := h.sel 5 [4, 0, 1, 2, 3] (by kernel_rfl) (by kernel_rfl)
      refine op_stores (wn rfl) rfl hr rfl (by kernel_rfl) (by kernel_rfl) (vs := [.int .i64 0, .int .i64 0]) rfl rfl (by kernel_rfl) h (i := 0) (cs' := #[.int .i64 0, .int .i64 0]) rfl ?_; clear h; intro w h
      refine wpList_nil ?_; refine then_normal ?_
      replace h : Fit z (sepL (pts b5 (.cells #[.int .i64 0, .int .i64 0] 36) :: ob66 b16 r9 :: ob34 B0 S10 caq12 ccq13 caq14 ccq15 :: ro2 caq12 ccq13 S10.Held :: ro96 caq14 ccq15 S10.Book :: L)) _ := h
      refine ⟨fun _ => ⟨⟨(h.pick 1).cell 2 rfl, trivial⟩, trivial⟩, ?_⟩
      refine ev 0 4 rfl (by kernel_rfl) (wn rfl) hr (.int .i64 r9.Err) (fun w => by kernel_rfl) ?_; clear hr a; intro a hr
      refine e_end (by kernel_rfl) ?_
      refine then_normal ?_
      refine wp_ret ?_
      refine then_ret ?_
      refine end_retCT (cs := [.int .i64 0, .int .i64 0]) (v := .int .i64 r9.Err) rfl hr (by kernel_rfl) (by kernel_rfl) (by kernel_rfl) (by kernel_rfl) ⟨h.cell 0 rfl, h.cell 1 rfl, trivial⟩ ?_
      replace h : Fit z (sepL (ob34 B0 S10 caq12 ccq13 caq14 ccq15 :: ro2 caq12 ccq13 S10.Held :: ro96 caq14 ccq15 S10.Book :: L)) _ := h.sel 5 [2, 3, 4] (by kernel_rfl) (by kernel_rfl)
      replace H := ej3 H; obtain ⟨rfl, rfl, rfl⟩ := H
      exact ⟨caq12, ccq13, caq14, ccq15, rfl, h⟩

/-- plunder/frames.Cells -/
def frames_Cells (p0 : Int) : Option (Int) :=
  (if p0 < (1 : Int) then some 0 else (if p0 > (4096 : Int) then some 0 else some (wi ((1 : Int) + (wi (p0 * (10 : Int)))))))
set_option maxRecDepth 100000 in
set_option maxHeartbeats 4000000 in
theorem frames_Cells_ok {z w : World} {L : List HProp} {p0 : Int} {r0 : Int} (H : frames_Cells p0 = some r0) (h : Fit z (sepL (L)) w)  :
    Calls Try.prog 15 #[.int .i64 p0] w fun e w => e = .returned (.int .i64 r0) ∧ Fit z (sepL (L)) w := by
  unfold frames_Cells at H
  refine enter Try.func15 rfl 12 rfl rfl [(0, .int .i64 p0)] ⟨rfl, trivial⟩ ?_
  intro j a hr
  refine wp_seq ?_
  refine wp_region_lit ?_
  refine ov hr (.int .i64 0) (by kernel_rfl) ?_; clear hr a; intro a hr
  refine wpList_nil ?_
  refine then_normal ?_
  refine wp_seq ?_
  refine wp_seq ?_
  refine wp_region_lit ?_
  refine ovs [3, 4, 5] [.int .i64 p0, .bool (decide (p0 < (1 : Int))), .bool (decide (p0 < (1 : Int)))] hr ⟨rfl, rfl⟩ (by kernel_rfl) ?_; clear hr a; intro a hr
  by_cases c1 : p0 < (1 : Int)
  ·
    replace H := ifT c1 H
    refine op_off ((wg hr rfl rfl rfl (b' := (decide (p0 < (1 : Int)))) (by kernel_rfl)).trans (by rw [show (decide (p0 < (1 : Int))) = true from (decide_eq_true c1)]; rfl)) rfl rfl hr ?_; clear hr a; intro a hr
    refine op_off ((wg hr rfl rfl rfl (b' := (decide (p0 < (1 : Int)))) (by kernel_rfl)).trans (by rw [show (decide (p0 < (1 : Int))) = true from (decide_eq_true c1)]; rfl)) rfl rfl hr ?_; clear hr a; intro a hr
    refine op_val (wn rfl) rfl rfl hr (v := .bool true) (rp_t (b := (decide (p0 < (1 : Int)))) rfl (by kernel_rfl) (decide_eq_true c1) (by kernel_rfl)) ?_; clear hr a; intro a hr
    refine wpList_nil ?_
    refine then_normal ?_
    refine cond_tt hr (b := true) rfl ?_
    refine wp_seq ?_
    refine wp_region_lit ?_
    refine ov hr (.int .i64 0) (by kernel_rfl) ?_; clear hr a; intro a hr
    refine wpList_nil ?_
    refine then_normal ?_
    refine wp_ret ?_
    refine then_ret ?_
    refine end_ret1 (v := .int .i64 0) rfl hr (by kernel_rfl) ?_
    replace H := ej1 H; subst H
    exact ⟨rfl, h⟩
  ·
    replace H := ifF c1 H
    refine op_val ((wg hr rfl rfl rfl (b' := (decide (p0 < (1 : Int)))) (by kernel_rfl)).trans (by rw [show (decide (p0 < (1 : Int))) = false from (decide_eq_false c1)]; rfl)) rfl rfl hr (v := .int .i64 p0) (by kernel_rfl) ?_; clear hr a; intro a hr
    refine op_val ((wg hr rfl rfl rfl (b' := (decide (p0 < (1 : Int)))) (by kernel_rfl)).trans (by rw [show (decide (p0 < (1 : Int))) = false from (decide_eq_false c1)]; rfl)) rfl rfl hr (v := .bool (decide (p0 > (4096 : Int)))) (by kernel_rfl) ?_; clear hr a; intro a hr
    refine op_val (wn rfl) rfl rfl hr (v := .bool (decide (p0 > (4096 : Int)))) (rp_f (b := (decide (p0 < (1 : Int)))) rfl (by kernel_rfl) (decide_eq_false c1) (by kernel_rfl)) ?_; clear hr a; intro a hr
    refine wpList_nil ?_
    refine then_normal ?_
    by_cases c2 : p0 > (4096 : Int)
    ·
      replace H := ifT c2 H
      refine cond_tt hr (b := (decide (p0 > (4096 : Int)))) (decide_eq_true c2) ?_
      refine wp_seq ?_
      refine wp_region_lit ?_
      refine ov hr (.int .i64 0) (by kernel_rfl) ?_; clear hr a; intro a hr
      refine wpList_nil ?_
      refine then_normal ?_
      refine wp_ret ?_
      refine then_ret ?_
      refine end_ret1 (v := .int .i64 0) rfl hr (by kernel_rfl) ?_
      replace H := ej1 H; subst H
      exact ⟨rfl, h⟩
    ·
      replace H := ifF c2 H
      refine cond_ff hr (b := (decide (p0 > (4096 : Int)))) (decide_eq_false c2) ?_
      refine wp_skip ?_
      refine then_normal ?_
      refine wp_seq ?_
      refine wp_region_lit ?_
      refine ovs [9, 10, 11, 2] [.int .i64 p0, .int .i64 (wi (p0 * (10 : Int))), .int .i64 (wi ((1 : Int) + (wi (p0 * (10 : Int))))), .int .i64 (wi ((1 : Int) + (wi (p0 * (10 : Int)))))] hr ⟨rfl, rfl⟩ (by kernel_rfl) ?_; clear hr a; intro a hr
      refine wpList_nil ?_
      refine then_normal ?_
      refine wp_ret ?_
      refine end_ret1 (v := .int .i64 (wi ((1 : Int) + (wi (p0 * (10 : Int)))))) rfl hr (by kernel_rfl) ?_
      replace H := ej1 H; subst H
      exact ⟨rfl, h⟩


end Go.Proofs.Ytnghahgfcaolbaa.Mo
