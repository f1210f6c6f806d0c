/- what the functions compute, as plain Lean functions, and that they do -/
import Derived.Test.YtacgigkonoegiaaCh0
namespace Go.Proofs.Ytacgigkonoegiaa.Mo
open Go Go.RowKit Go.Proofs.Ytacgigkonoegiaa.SL Go.Proofs.Ytacgigkonoegiaa.GX
set_option linter.unusedVariables false
set_option linter.unusedSimpArgs false

/-- plunder/plunderref2.New -/
def plunderref2_New (p0 : Int) : Option (T_plunderref2_Arena × Int) :=
  (if p0 < 0 then some ((⟨0, ([] : List Int), false, 0, ([] : List T_api_Access)⟩ : T_plunderref2_Arena), 3) else (if p0 > 1048576 then some ((⟨0, ([] : List Int), false, 0, ([] : List T_api_Access)⟩ : T_plunderref2_Arena), 3) else some ((⟨p0, ([] : List Int), false, 0, ([] : List T_api_Access)⟩ : T_plunderref2_Arena), 0)))

set_option maxRecDepth 100000 in
set_option maxHeartbeats 4000000 in
theorem plunderref2_New_ok {z w : World} {L : List HProp} {p0 : Int} {r0 : T_plunderref2_Arena} {r1 : Int} (H : plunderref2_New p0 = some (r0, r1)) (h : Fit z (sepL (L)) w)  :
    Calls Try.prog 27 #[vI p0] w fun e w => ∃ Bn0 : Nat, ∃ car0_1 : Option Addr, ∃ ccr0_2 : Nat, ∃ car0_3 : Option Addr, ∃ ccr0_4 : Nat, e = .returned (.tuple #[pA Bn0 0, vI r1]) ∧ Fit z (sepL (ob62 Bn0 r0 car0_1 ccr0_2 car0_3 ccr0_4 :: ro2 car0_1 ccr0_2 r0.Held :: ro90 car0_3 ccr0_4 r0.Book :: L)) w := by
 unfold plunderref2_New at H
 refine enter Try.func27 rfl 15 rfl rfl [(0, vI p0)] ⟨rfl, trivial⟩ ?_
 intro j a hr
 refine sr ?_
 refine oo [2, 3] [pN, vI 0] hr fun a hr => ?_
 refine ln ?_
 refine wp_seq ?_
 refine sr ?_
 refine oo [4, 5, 6] [vI p0, vB (decide (p0 < 0)), vB (decide (p0 < 0))] hr fun a hr => ?_
 by_cases c1 : p0 < 0
 ·
  replace H := ifT c1 H
  refine offg (wgt hr (decide_eq_true c1)) hr fun a hr => ?_
  refine offg (wgt hr (decide_eq_true c1)) hr fun a hr => ?_
  refine opv (wn rfl) hr (vB true) (rp_t (b := (decide (p0 < 0))) rfl (by kernel_rfl) (decide_eq_true c1) (by kernel_rfl)) fun a hr => ?_
  refine ln ?_
  refine cond_tt hr (b := true) rfl ?_
  refine sr ?_
  refine o1 hr (.agg #[vI 0, .slice none 0 0, vB false, vI 0, .slice none 0 0]) fun a hr => ?_
  refine onew (wn rfl) hr h nb (#[vI 0, .slice none 0 0, vB false, vI 0, .slice none 0 0]) 62 fun b2 w a h hr => ?_
  refine oo [2, 3] [pA b2 0, vI 3] hr fun a hr => ?_
  refine ln ?_
  refine wp_ret ?_
  refine then_ret ?_
  refine end_ret2 (v := pA b2 0) (v' := vI 3) rfl hr (by kernel_rfl) (by kernel_rfl) ?_
  replace h : Fit z (sepL (rowOf 2 1 encZ_i64 (.slice none 0 0) ([] : List Int) :: pts b2 (.cells #[vI 0, .slice none 0 0, vB false, vI 0, .slice none 0 0] 62) :: L)) _ := h.row_nil
  replace h : Fit z (sepL (rowOf 90 6 enc_T_api_Access (.slice none 0 0) ([] : List T_api_Access) :: rowOf 2 1 encZ_i64 (.slice none 0 0) ([] : List Int) :: pts b2 (.cells #[vI 0, .slice none 0 0, vB false, vI 0, .slice none 0 0] 62) :: L)) _ := h.row_nil
  replace h : Fit z (sepL (pts b2 (.cells #[vI 0, .slice none 0 0, vB false, vI 0, .slice none 0 0] 62) :: rowOf 2 1 encZ_i64 (.slice none 0 0) ([] : List Int) :: rowOf 90 6 enc_T_api_Access (.slice none 0 0) ([] : List T_api_Access) :: L)) _ := h.sel 3 [2, 1, 0] (by kernel_rfl) (by kernel_rfl)
  obtain ⟨rfl, rfl⟩ := ej2 H
  exact ⟨b2, none, 0, none, 0, rfl, h⟩
 ·
  replace H := ifF c1 H
  refine opv (wgt hr (decide_eq_false c1)) hr (vI p0) (by kernel_rfl) fun a hr => ?_
  refine opv (wgt hr (decide_eq_false c1)) hr (vB (decide (p0 > 1048576))) (by kernel_rfl) fun a hr => ?_
  refine opv (wn rfl) hr (vB (decide (p0 > 1048576))) (rp_f (b := (decide (p0 < 0))) rfl (by kernel_rfl) (decide_eq_false c1) (by kernel_rfl)) fun a hr => ?_
  refine ln ?_
  by_cases c3 : p0 > 1048576
  ·
   replace H := ifT c3 H
   refine cond_tt hr (decide_eq_true c3) ?_
   refine sr ?_
   refine o1 hr (.agg #[vI 0, .slice none 0 0, vB false, vI 0, .slice none 0 0]) fun a hr => ?_
   refine onew (wn rfl) hr h nb (#[vI 0, .slice none 0 0, vB false, vI 0, .slice none 0 0]) 62 fun b4 w a h hr => ?_
   refine oo [2, 3] [pA b4 0, vI 3] hr fun a hr => ?_
   refine ln ?_
   refine wp_ret ?_
   refine then_ret ?_
   refine end_ret2 (v := pA b4 0) (v' := vI 3) rfl hr (by kernel_rfl) (by kernel_rfl) ?_
   replace h : Fit z (sepL (rowOf 2 1 encZ_i64 (.slice none 0 0) ([] : List Int) :: pts b4 (.cells #[vI 0, .slice none 0 0, vB false, vI 0, .slice none 0 0] 62) :: L)) _ := h.row_nil
   replace h : Fit z (sepL (rowOf 90 6 enc_T_api_Access (.slice none 0 0) ([] : List T_api_Access) :: rowOf 2 1 encZ_i64 (.slice none 0 0) ([] : List Int) :: pts b4 (.cells #[vI 0, .slice none 0 0, vB false, vI 0, .slice none 0 0] 62) :: L)) _ := h.row_nil
   replace h : Fit z (sepL (pts b4 (.cells #[vI 0, .slice none 0 0, vB false, vI 0, .slice none 0 0] 62) :: rowOf 2 1 encZ_i64 (.slice none 0 0) ([] : List Int) :: rowOf 90 6 enc_T_api_Access (.slice none 0 0) ([] : List T_api_Access) :: L)) _ := h.sel 3 [2, 1, 0] (by kernel_rfl) (by kernel_rfl)
   obtain ⟨rfl, rfl⟩ := ej2 H
   exact ⟨b4, none, 0, none, 0, rfl, h⟩
  ·
   replace H := ifF c3 H
   refine cond_ff hr (decide_eq_false c3) ?_
   refine wp_skip ?_
   refine then_normal ?_
   refine sr ?_
   refine oo [12, 13] [vI p0, .agg #[vI p0, .slice none 0 0, vB false, vI 0, .slice none 0 0]] hr fun a hr => ?_
   refine onew (wn rfl) hr h nb (#[vI p0, .slice none 0 0, vB false, vI 0, .slice none 0 0]) 62 fun b5 w a h hr => ?_
   refine oo [2, 3] [pA b5 0, vI 0] hr fun a hr => ?_
   refine ln ?_
   refine wp_ret ?_
   refine end_ret2 (v := pA b5 0) (v' := vI 0) rfl hr (by kernel_rfl) (by kernel_rfl) ?_
   replace h : Fit z (sepL (rowOf 2 1 encZ_i64 (.slice none 0 0) ([] : List Int) :: pts b5 (.cells #[vI p0, .slice none 0 0, vB false, vI 0, .slice none 0 0] 62) :: L)) _ := h.row_nil
   replace h : Fit z (sepL (rowOf 90 6 enc_T_api_Access (.slice none 0 0) ([] : List T_api_Access) :: rowOf 2 1 encZ_i64 (.slice none 0 0) ([] : List Int) :: pts b5 (.cells #[vI p0, .slice none 0 0, vB false, vI 0, .slice none 0 0] 62) :: L)) _ := h.row_nil
   replace h : Fit z (sepL (pts b5 (.cells #[vI p0, .slice none 0 0, vB false, vI 0, .slice none 0 0] 62) :: rowOf 2 1 encZ_i64 (.slice none 0 0) ([] : List Int) :: rowOf 90 6 enc_T_api_Access (.slice none 0 0) ([] : List T_api_Access) :: L)) _ := h.sel 3 [2, 1, 0] (by kernel_rfl) (by kernel_rfl)
   obtain ⟨rfl, rfl⟩ := ej2 H
   exact ⟨b5, none, 0, none, 0, rfl, h⟩

/-- plunder/cells.good -/
def cells_good (p0 : Int) : Option (Bool) :=
  (if p0 ≥ 0 then some (decide (p0 ≤ 1048576)) else some false)

set_option maxRecDepth 100000 in
set_option maxHeartbeats 4000000 in
theorem cells_good_ok {z w : World} {L : List HProp} {p0 : Int} {r0 : Bool} (H : cells_good p0 = some r0) (h : Fit z (sepL (L)) w)  :
    Calls Try.prog 61 #[vI p0] w fun e w => e = .returned (vB r0) ∧ Fit z (sepL (L)) w := by
 unfold cells_good at H
 refine enter Try.func61 rfl 9 rfl rfl [(0, vI p0)] ⟨rfl, trivial⟩ ?_
 intro j a hr
 refine sr ?_
 refine o1 hr (vB false) fun a hr => ?_
 refine ln ?_
 refine sr ?_
 refine oo [3, 4, 5] [vI p0, vB (decide (p0 ≥ 0)), vB (decide (p0 ≥ 0))] hr fun a hr => ?_
 by_cases c1 : p0 ≥ 0
 ·
  replace H := ifT c1 H
  refine opv (wgt hr (decide_eq_true c1)) hr (vI p0) (by kernel_rfl) fun a hr => ?_
  refine opv (wgt hr (decide_eq_true c1)) hr (vB (decide (p0 ≤ 1048576))) (by kernel_rfl) fun a hr => ?_
  refine opv (wn rfl) hr (vB (decide (p0 ≤ 1048576))) (rp_t (b := (decide (p0 ≥ 0))) rfl (by kernel_rfl) (decide_eq_true c1) (by kernel_rfl)) fun a hr => ?_
  refine o1 hr (vB (decide (p0 ≤ 1048576))) fun a hr => ?_
  refine ln ?_
  refine wp_ret ?_
  refine end_ret1 (v := vB (decide (p0 ≤ 1048576))) rfl hr (by kernel_rfl) ?_
  replace H := ej1 H; subst H
  exact ⟨rfl, h⟩
 ·
  replace H := ifF c1 H
  refine offg (wgt hr (decide_eq_false c1)) hr fun a hr => ?_
  refine offg (wgt hr (decide_eq_false c1)) hr fun a hr => ?_
  refine opv (wn rfl) hr (vB false) (rp_f (b := (decide (p0 ≥ 0))) rfl (by kernel_rfl) (decide_eq_false c1) (by kernel_rfl)) fun a hr => ?_
  refine o1 hr (vB false) fun a hr => ?_
  refine ln ?_
  refine wp_ret ?_
  refine end_ret1 (v := vB false) rfl hr (by kernel_rfl) ?_
  replace H := ej1 H; subst H
  exact ⟨rfl, h⟩

/-- plunder/cells.NewShared -/
def cells_NewShared (p0 : Int) : Option ((Option T_cells_Shared) × Int) :=
  ob1 (cells_good p0) (fun r1 => (if r1 = true then if 0 ≤ p0 ∧ p0 * 8 ≤ 140737488355328 then some (some (⟨p0, 0, 0, 0, 0, List.replicate p0.toNat (⟨0⟩ : T_atomic_Int64)⟩ : T_cells_Shared), 0) else none else some (none, 3)))

set_option maxRecDepth 100000 in
set_option maxHeartbeats 4000000 in
theorem cells_NewShared_ok0 {z w : World} {L : List HProp} {p0 : Int} {r0 : T_cells_Shared} {r1 : Int} (H : cells_NewShared p0 = some ((some r0), r1)) (h : Fit z (sepL (L)) w)  :
    Calls Try.prog 28 #[vI p0] w fun e w => ∃ Bn0 : Nat, ∃ car0_1 : Option Addr, ∃ ccr0_2 : Nat, e = .returned (.tuple #[pA Bn0 0, vI r1]) ∧ Fit z (sepL (ob110 Bn0 r0 car0_1 ccr0_2 :: ro107 car0_1 ccr0_2 r0.cell :: L)) w := by
 unfold cells_NewShared at H
 refine enter Try.func28 rfl 13 rfl rfl [(0, vI p0)] ⟨rfl, trivial⟩ ?_
 intro j a hr
 refine sr ?_
 refine oo [2, 3] [pN, vI 0] hr fun a hr => ?_
 refine ln ?_
 refine wp_seq ?_
 refine sr ?_
 obtain ⟨r1, e2, H⟩ := bd1 H
 refine o1 hr (vI p0) fun a hr => ?_
 have hc := cells_good_ok (H := e2) (h := h)
 refine cl (wn rfl) hr hc ?_; clear hc h
 rintro _ w ⟨rfl, h⟩; refine ⟨_, rfl, fun a hr => ?_⟩
 refine o1 hr (vB (!r1)) fun a hr => ?_
 refine ln ?_
 by_cases c3 : r1 = true
 ·
  replace H := ifT c3 H
  refine cond_ff hr (b := (!r1)) (by rw [show r1 = true from (c3)]; rfl) ?_
  refine wp_skip ?_
  refine then_normal ?_
  refine sr ?_
  obtain ⟨c4, H⟩ := gd H
  refine oo [7, 8, 9] [vI p0, .agg #[vI p0, vI 0], vI p0] hr fun a hr => ?_
  refine op_make_row (i := p0) (bytes := 8) (zc := #[vI 0]) (⟨0⟩ : T_atomic_Int64) (wn rfl) rfl rfl hr rfl (by kernel_rfl) (by kernel_rfl) c4 enc_T_atomic_Int64_ok (E := 107) (by kernel_rfl) (by kernel_rfl) rfl rfl h fun ca5 w a h hr => ?_
  refine o1 hr (.agg #[vI p0, vI 0, .int .i32 0, .int .u32 0, vI 0, .slice ca5 (List.replicate p0.toNat (⟨0⟩ : T_atomic_Int64)).length p0.toNat]) fun a hr => ?_
  refine onew (wn rfl) hr h nb (#[vI p0, vI 0, .int .i32 0, .int .u32 0, vI 0, .slice ca5 (List.replicate p0.toNat (⟨0⟩ : T_atomic_Int64)).length p0.toNat]) 110 fun b6 w a h hr => ?_
  refine oo [2, 3] [pA b6 0, vI 0] hr fun a hr => ?_
  refine wpList_nil ?_
  replace h : Fit z (sepL (pts b6 (.cells #[vI p0, vI 0, .int .i32 0, .int .u32 0, vI 0, .slice ca5 (List.replicate p0.toNat (⟨0⟩ : T_atomic_Int64)).length p0.toNat] 110) :: ro107 ca5 p0.toNat (List.replicate p0.toNat (⟨0⟩ : T_atomic_Int64)) :: L)) _ := h
  refine then_normal ?_
  refine wp_ret ?_
  refine end_ret2 (v := pA b6 0) (v' := vI 0) rfl hr (by kernel_rfl) (by kernel_rfl) ?_
  cases H
  exact ⟨b6, ca5, p0.toNat, rfl, h⟩
 ·
  replace H := ifF c3 H
  refine cond_tt hr (b := (!r1)) (by rw [show r1 = false from (bF c3)]; rfl) ?_
  refine sr ?_
  refine oo [2, 3] [pN, vI 3] hr fun a hr => ?_
  refine ln ?_
  refine wp_ret ?_
  refine then_ret ?_
  refine end_ret2 (v := pN) (v' := vI 3) rfl hr (by kernel_rfl) (by kernel_rfl) ?_
  cases H

set_option maxRecDepth 100000 in
set_option maxHeartbeats 4000000 in
theorem cells_NewShared_ok1 {z w : World} {L : List HProp} {p0 : Int} {r1 : Int} (H : cells_NewShared p0 = some (none, r1)) (h : Fit z (sepL (L)) w)  :
    Calls Try.prog 28 #[vI p0] w fun e w => e = .returned (.tuple #[pN, vI r1]) ∧ Fit z (sepL (L)) w := by
 unfold cells_NewShared at H
 refine enter Try.func28 rfl 13 rfl rfl [(0, vI p0)] ⟨rfl, trivial⟩ ?_
 intro j a hr
 refine sr ?_
 refine oo [2, 3] [pN, vI 0] hr fun a hr => ?_
 refine ln ?_
 refine wp_seq ?_
 refine sr ?_
 obtain ⟨r1, e2, H⟩ := bd1 H
 refine o1 hr (vI p0) fun a hr => ?_
 have hc := cells_good_ok (H := e2) (h := h)
 refine cl (wn rfl) hr hc ?_; clear hc h
 rintro _ w ⟨rfl, h⟩; refine ⟨_, rfl, fun a hr => ?_⟩
 refine o1 hr (vB (!r1)) fun a hr => ?_
 refine ln ?_
 by_cases c3 : r1 = true
 ·
  replace H := ifT c3 H
  refine cond_ff hr (b := (!r1)) (by rw [show r1 = true from (c3)]; rfl) ?_
  refine wp_skip ?_
  refine then_normal ?_
  refine sr ?_
  obtain ⟨c4, H⟩ := gd H
  refine oo [7, 8, 9] [vI p0, .agg #[vI p0, vI 0], vI p0] hr fun a hr => ?_
  refine op_make_row (i := p0) (bytes := 8) (zc := #[vI 0]) (⟨0⟩ : T_atomic_Int64) (wn rfl) rfl rfl hr rfl (by kernel_rfl) (by kernel_rfl) c4 enc_T_atomic_Int64_ok (E := 107) (by kernel_rfl) (by kernel_rfl) rfl rfl h fun ca5 w a h hr => ?_
  refine o1 hr (.agg #[vI p0, vI 0, .int .i32 0, .int .u32 0, vI 0, .slice ca5 (List.replicate p0.toNat (⟨0⟩ : T_atomic_Int64)).length p0.toNat]) fun a hr => ?_
  refine onew (wn rfl) hr h nb (#[vI p0, vI 0, .int .i32 0, .int .u32 0, vI 0, .slice ca5 (List.replicate p0.toNat (⟨0⟩ : T_atomic_Int64)).length p0.toNat]) 110 fun b6 w a h hr => ?_
  refine oo [2, 3] [pA b6 0, vI 0] hr fun a hr => ?_
  refine wpList_nil ?_
  replace h : Fit z (sepL (pts b6 (.cells #[vI p0, vI 0, .int .i32 0, .int .u32 0, vI 0, .slice ca5 (List.replicate p0.toNat (⟨0⟩ : T_atomic_Int64)).length p0.toNat] 110) :: ro107 ca5 p0.toNat (List.replicate p0.toNat (⟨0⟩ : T_atomic_Int64)) :: L)) _ := h
  refine then_normal ?_
  refine wp_ret ?_
  refine end_ret2 (v := pA b6 0) (v' := vI 0) rfl hr (by kernel_rfl) (by kernel_rfl) ?_
  cases H
 ·
  replace H := ifF c3 H
  refine cond_tt hr (b := (!r1)) (by rw [show r1 = false from (bF c3)]; rfl) ?_
  refine sr ?_
  refine oo [2, 3] [pN, vI 3] hr fun a hr => ?_
  refine ln ?_
  refine wp_ret ?_
  refine then_ret ?_
  refine end_ret2 (v := pN) (v' := vI 3) rfl hr (by kernel_rfl) (by kernel_rfl) ?_
  cases H
  exact ⟨rfl, h⟩

/-- plunder/plunderlaw2.mod -/
def plunderlaw2_mod (p0 : Int) (p1 : Int) : Option (Int) :=
  if p1 ≠ 0 then (if (p0.tmod p1) < 0 then some (wi ((p0.tmod p1) + p1)) else some (p0.tmod p1)) else none

set_option maxRecDepth 100000 in
set_option maxHeartbeats 4000000 in
theorem plunderlaw2_mod_ok {z w : World} {L : List HProp} {p0 : Int} {p1 : Int} {r0 : Int} (H : plunderlaw2_mod p0 p1 = some r0) (h : Fit z (sepL (L)) w)  :
    Calls Try.prog 23 #[vI p0, vI p1] w fun e w => e = .returned (vI r0) ∧ Fit z (sepL (L)) w := by
 unfold plunderlaw2_mod at H
 refine enter Try.func23 rfl 15 rfl rfl [(0, vI p0), (1, vI p1)] ⟨rfl, rfl, trivial⟩ ?_
 intro j a hr
 refine sr ?_
 refine o1 hr (vI 0) fun a hr => ?_
 refine ln ?_
 refine sr ?_
 obtain ⟨c1, H⟩ := gd H
 refine oo [6, 7] [vI p0, vI p1] hr fun a hr => ?_
 refine opv (wn rfl) hr (vI (p0.tmod p1)) (rrem rfl (by kernel_rfl) (by kernel_rfl) c1) fun a hr => ?_
 refine o1 hr (vI (p0.tmod p1)) fun a hr => ?_
 refine ln ?_
 refine wp_seq ?_
 refine sr ?_
 refine oo [9, 10] [vI (p0.tmod p1), vB (decide ((p0.tmod p1) < 0))] hr fun a hr => ?_
 refine ln ?_
 by_cases c2 : (p0.tmod p1) < 0
 ·
  replace H := ifT c2 H
  refine cond_tt hr (decide_eq_true c2) ?_
  refine wp_region_lit ?_
  refine oo [11, 12, 13, 5] [vI (p0.tmod p1), vI p1, vI (wi ((p0.tmod p1) + p1)), vI (wi ((p0.tmod p1) + p1))] hr fun a hr => ?_
  refine ln ?_
  refine sr ?_
  refine oo [14, 4] [vI (wi ((p0.tmod p1) + p1)), vI (wi ((p0.tmod p1) + p1))] hr fun a hr => ?_
  refine ln ?_
  refine wp_ret ?_
  refine end_ret1 (v := vI (wi ((p0.tmod p1) + p1))) rfl hr (by kernel_rfl) ?_
  replace H := ej1 H; subst H
  exact ⟨rfl, h⟩
 ·
  replace H := ifF c2 H
  refine cond_ff hr (decide_eq_false c2) ?_
  refine wp_skip ?_
  refine then_normal ?_
  refine sr ?_
  refine oo [14, 4] [vI (p0.tmod p1), vI (p0.tmod p1)] hr fun a hr => ?_
  refine ln ?_
  refine wp_ret ?_
  refine end_ret1 (v := vI (p0.tmod p1)) rfl hr (by kernel_rfl) ?_
  replace H := ej1 H; subst H
  exact ⟨rfl, h⟩

/-- (*plunder/cells.Shared).outside -/
def cells_Shared_outside (p0 : T_cells_Shared) (p1 : Int) : Option (Bool) :=
  (if p1 < 0 then some true else some (decide (p1 ≥ p0.given_v)))

set_option maxRecDepth 100000 in
set_option maxHeartbeats 4000000 in
theorem cells_Shared_outside_ok {z w : World} {L : List HProp} {p0 : T_cells_Shared} {p1 : Int} {B0 : Nat} {ca1 : Option Addr} {cc2 : Nat} {r0 : Bool} (H : cells_Shared_outside p0 p1 = some r0) (h : Fit z (sepL (ob110 B0 p0 ca1 cc2 :: ro107 ca1 cc2 p0.cell :: L)) w)  :
    Calls Try.prog 103 #[pA B0 0, vI p1] w fun e w => e = .returned (vB r0) ∧ Fit z (sepL (ob110 B0 p0 ca1 cc2 :: ro107 ca1 cc2 p0.cell :: L)) w := by
 unfold cells_Shared_outside at H
 refine enter Try.func103 rfl 19 rfl rfl [(0, pA B0 0), (1, vI p1)] ⟨rfl, rfl, trivial⟩ ?_
 intro j a hr
 refine sr ?_
 refine o1 hr (vB false) fun a hr => ?_
 refine ln ?_
 refine sr ?_
 refine oo [5, 6, 7] [pA B0 0, vB false, vB false] hr fun a hr => ?_
 refine opv (wgt hr (c := false) rfl) hr (vI p1) (by kernel_rfl) fun a hr => ?_
 refine opv (wgt hr (c := false) rfl) hr (vB (decide (p1 < 0))) (by kernel_rfl) fun a hr => ?_
 refine oo [10, 11] [vB (decide (p1 < 0)), vB (decide (p1 < 0))] hr fun a hr => ?_
 by_cases c3 : p1 < 0
 ·
  replace H := ifT c3 H
  refine offg (wgt hr (decide_eq_true c3)) hr fun a hr => ?_
  refine offg (wgt hr (decide_eq_true c3)) hr fun a hr => ?_
  refine offg (wgt hr (decide_eq_true c3)) hr fun a hr => ?_
  refine offg (wgt hr (decide_eq_true c3)) hr fun a hr => ?_
  refine offg (wgt hr (decide_eq_true c3)) hr fun a hr => ?_
  refine offg (wgt hr (decide_eq_true c3)) hr fun a hr => ?_
  refine opv (wn rfl) hr (vB true) (rp_t (b := (decide (p1 < 0))) rfl (by kernel_rfl) (decide_eq_true c3) (by kernel_rfl)) fun a hr => ?_
  refine o1 hr (vB true) fun a hr => ?_
  refine ln ?_
  refine wp_ret ?_
  refine end_ret1 (v := vB true) rfl hr (by kernel_rfl) ?_
  replace H := ej1 H; subst H
  exact ⟨rfl, h⟩
 ·
  replace H := ifF c3 H
  refine opv (wgt hr (decide_eq_false c3)) hr (vI p1) (by kernel_rfl) fun a hr => ?_
  refine opv (wgt hr (decide_eq_false c3)) hr (pA B0 0) (by kernel_rfl) fun a hr => ?_
  refine opv (wgt hr (decide_eq_false c3)) hr (pA B0 0) (by kernel_rfl) fun a hr => ?_
  refine opv (wgt hr (decide_eq_false c3)) hr (pA B0 4) (by kernel_rfl) fun a hr => ?_
  refine op_call (wgt hr (decide_eq_false c3)) rfl rfl hr (f := 104) (args := #[pA B0 4]) (by kernel_rfl) (a_load (h.cell 4 rfl)) ?_; rintro _ _ ⟨rfl, rfl⟩; refine ⟨_, rfl, ?_⟩; clear hr a; intro a hr
  refine opv (wgt hr (decide_eq_false c3)) hr (vB (decide (p1 ≥ p0.given_v))) (by kernel_rfl) fun a hr => ?_
  refine opv (wn rfl) hr (vB (decide (p1 ≥ p0.given_v))) (rp_f (b := (decide (p1 < 0))) rfl (by kernel_rfl) (decide_eq_false c3) (by kernel_rfl)) fun a hr => ?_
  refine o1 hr (vB (decide (p1 ≥ p0.given_v))) fun a hr => ?_
  refine ln ?_
  refine wp_ret ?_
  refine end_ret1 (v := vB (decide (p1 ≥ p0.given_v))) rfl hr (by kernel_rfl) ?_
  replace H := ej1 H; subst H
  exact ⟨rfl, h⟩

/-- (*plunder/cells.Shared).Load -/
def cells_Shared_Load (p0 : T_cells_Shared) (p1 : Int) : Option (Int × Int) :=
  ob1 (cells_Shared_outside p0 p1) (fun r3 => (if r3 = true then some (0, 20) else if inr_ p1 p0.cell.length then some ((at_ p0.cell p1.toNat).v, 0) else none))

set_option maxRecDepth 100000 in
set_option maxHeartbeats 4000000 in
theorem cells_Shared_Load_ok {z w : World} {L : List HProp} {p0 : T_cells_Shared} {p1 : Int} {B0 : Nat} {ca1 : Option Addr} {cc2 : Nat} {r0 : Int} {r1 : Int} (H : cells_Shared_Load p0 p1 = some (r0, r1)) (h : Fit z (sepL (ob110 B0 p0 ca1 cc2 :: ro107 ca1 cc2 p0.cell :: L)) w)  :
    Calls Try.prog 73 #[pA B0 0, vI p1] w fun e w => e = .returned (.tuple #[vI r0, vI r1]) ∧ Fit z (sepL (ob110 B0 p0 ca1 cc2 :: ro107 ca1 cc2 p0.cell :: L)) w := by
 unfold cells_Shared_Load at H
 refine enter Try.func73 rfl 16 rfl rfl [(0, pA B0 0), (1, vI p1)] ⟨rfl, rfl, trivial⟩ ?_
 intro j a hr
 refine sr ?_
 refine oo [4, 5] [vI 0, vI 0] hr fun a hr => ?_
 refine ln ?_
 refine wp_seq ?_
 refine sr ?_
 obtain ⟨r3, e4, H⟩ := bd1 H
 refine oo [6, 7] [pA B0 0, vI p1] hr fun a hr => ?_
 have hc := cells_Shared_outside_ok (H := e4) (h := h)
 refine cl (wn rfl) hr hc ?_; clear hc h
 rintro _ w ⟨rfl, h⟩; refine ⟨_, rfl, fun a hr => ?_⟩
 refine ln ?_
 by_cases c5 : r3 = true
 ·
  replace H := ifT c5 H
  refine cond_tt hr (c5) ?_
  refine sr ?_
  refine oo [4, 5] [vI 0, vI 20] hr fun a hr => ?_
  refine ln ?_
  refine wp_ret ?_
  refine then_ret ?_
  refine end_ret2 (v := vI 0) (v' := vI 20) rfl hr (by kernel_rfl) (by kernel_rfl) ?_
  obtain ⟨rfl, rfl⟩ := ej2 H
  exact ⟨rfl, h⟩
 ·
  replace H := ifF c5 H
  refine cond_ff hr (bF c5) ?_
  refine wp_skip ?_
  refine then_normal ?_
  refine sr ?_
  refine oo [9, 10, 11] [pA B0 0, pA B0 0, pA B0 5] hr fun a hr => ?_
  refine ld (wn rfl) hr (.slice ca1 p0.cell.length cc2) (h.cell 5 rfl) fun a hr => ?_
  obtain ⟨c6, H⟩ := gd H
  refine o1 hr (vI p1) fun a hr => ?_
  refine opv (wn rfl) hr (pA (blk ca1) (p1.toNat * 1)) (ri_row (k := .i64) (E := 107) rfl (by kernel_rfl) (by kernel_rfl) (by kernel_rfl) (by kernel_rfl) (h.pick 1) c6) fun a hr => ?_
  refine op_call (wn rfl) rfl rfl hr (f := 104) (args := #[pA (blk ca1) (p1.toNat * 1)]) (by kernel_rfl) (a_load ((h.pick 1).row_cell enc_T_atomic_Int64_ok (f := 0) (at_ok c6) rfl)) ?_; rintro _ _ ⟨rfl, rfl⟩; refine ⟨_, rfl, ?_⟩; clear hr a; intro a hr
  refine oo [4, 5] [vI (at_ p0.cell p1.toNat).v, vI 0] hr fun a hr => ?_
  refine ln ?_
  refine wp_ret ?_
  refine end_ret2 (v := vI (at_ p0.cell p1.toNat).v) (v' := vI 0) rfl hr (by kernel_rfl) (by kernel_rfl) ?_
  obtain ⟨rfl, rfl⟩ := ej2 H
  exact ⟨rfl, h⟩

/-- (*plunder/cells.Shared).Store -/
def cells_Shared_Store (p0 : T_cells_Shared) (p1 : Int) (p2 : Int) : Option (Int × T_cells_Shared) :=
  ob1 (cells_Shared_outside p0 p1) (fun r3 => (if r3 = true then some (20, p0) else if inr_ p1 p0.cell.length then some (0, { p0 with cell := p0.cell.set p1.toNat (⟨p2⟩ : T_atomic_Int64) }) else none))

set_option maxRecDepth 100000 in
set_option maxHeartbeats 4000000 in
theorem cells_Shared_Store_ok {z w : World} {L : List HProp} {p0 : T_cells_Shared} {p1 : Int} {p2 : Int} {B0 : Nat} {ca1 : Option Addr} {cc2 : Nat} {r0 : Int} {q0 : T_cells_Shared} (H : cells_Shared_Store p0 p1 p2 = some (r0, q0)) (h : Fit z (sepL (ob110 B0 p0 ca1 cc2 :: ro107 ca1 cc2 p0.cell :: L)) w)  :
    Calls Try.prog 74 #[pA B0 0, vI p1, vI p2] w fun e w => ∃ caq0_1 : Option Addr, ∃ ccq0_2 : Nat, e = .returned (vI r0) ∧ Fit z (sepL (ob110 B0 q0 caq0_1 ccq0_2 :: ro107 caq0_1 ccq0_2 q0.cell :: L)) w := by
 unfold cells_Shared_Store at H
 refine enter Try.func74 rfl 18 rfl rfl [(0, pA B0 0), (1, vI p1), (2, vI p2)] ⟨rfl, rfl, rfl, trivial⟩ ?_
 intro j a hr
 refine sr ?_
 refine o1 hr (vI 0) fun a hr => ?_
 refine ln ?_
 refine wp_seq ?_
 refine sr ?_
 obtain ⟨r3, e4, H⟩ := bd1 H
 refine oo [7, 8] [pA B0 0, vI p1] hr fun a hr => ?_
 have hc := cells_Shared_outside_ok (H := e4) (h := h)
 refine cl (wn rfl) hr hc ?_; clear hc h
 rintro _ w ⟨rfl, h⟩; refine ⟨_, rfl, fun a hr => ?_⟩
 refine ln ?_
 by_cases c5 : r3 = true
 ·
  replace H := ifT c5 H
  refine cond_tt hr (c5) ?_
  refine sr ?_
  refine o1 hr (vI 20) fun a hr => ?_
  refine ln ?_
  refine wp_ret ?_
  refine then_ret ?_
  refine end_ret1 (v := vI 20) rfl hr (by kernel_rfl) ?_
  obtain ⟨rfl, rfl⟩ := ej2 H
  exact ⟨ca1, cc2, rfl, h⟩
 ·
  replace H := ifF c5 H
  refine cond_ff hr (bF c5) ?_
  refine wp_skip ?_
  refine then_normal ?_
  refine sr ?_
  refine oo [10, 11, 12] [pA B0 0, pA B0 0, pA B0 5] hr fun a hr => ?_
  refine ld (wn rfl) hr (.slice ca1 p0.cell.length cc2) (h.cell 5 rfl) fun a hr => ?_
  obtain ⟨c6, H⟩ := gd H
  refine o1 hr (vI p1) fun a hr => ?_
  refine opv (wn rfl) hr (pA (blk ca1) (p1.toNat * 1)) (ri_row (k := .i64) (E := 107) rfl (by kernel_rfl) (by kernel_rfl) (by kernel_rfl) (by kernel_rfl) (h.pick 1) c6) fun a hr => ?_
  refine o1 hr (vI p2) fun a hr => ?_
  replace h : Fit z (sepL (ro107 ca1 cc2 p0.cell :: ob110 B0 p0 ca1 cc2 :: L)) _ := h.sel 2 [1, 0] (by kernel_rfl) (by kernel_rfl)
  refine op_set_row (wn rfl) rfl rfl hr enc_T_atomic_Int64_ok h (i := p1.toNat) (q := 0) (vI p2) (.tuple #[]) (x := (at_ p0.cell p1.toNat)) (y := (⟨p2⟩ : T_atomic_Int64)) (at_ok c6) rfl rfl (by kernel_rfl) (fun hc hz => a_store hc hz) fun w a h hr => ?_
  refine wpList_nil ?_
  replace h : Fit z (sepL (rowOf 107 1 enc_T_atomic_Int64 (.slice ca1 p0.cell.length cc2) (p0.cell.set p1.toNat (⟨p2⟩ : T_atomic_Int64)) :: ob110 B0 p0 ca1 cc2 :: L)) _ := h
  refine then_normal ?_
  refine sr ?_
  refine o1 hr (vI 0) fun a hr => ?_
  refine ln ?_
  refine wp_ret ?_
  refine end_ret1 (v := vI 0) rfl hr (by kernel_rfl) ?_
  have hn6 := h.row_n
  replace h : Fit z (sepL (ro107 ca1 cc2 (p0.cell.set p1.toNat (⟨p2⟩ : T_atomic_Int64)) :: pts B0 (.cells #[vI p0.ledger_size, vI p0.ledger_mark, .int .i32 p0.lock_mu_state, .int .u32 p0.lock_mu_sema, vI p0.given_v, .slice ca1 (p0.cell.set p1.toNat (⟨p2⟩ : T_atomic_Int64)).length cc2] 110) :: L)) w := (congrArg (fun q_ : Nat => Fit z (sepL (rowOf 107 1 enc_T_atomic_Int64 (.slice ca1 q_ cc2) (p0.cell.set p1.toNat (⟨p2⟩ : T_atomic_Int64)) :: pts B0 (.cells #[vI p0.ledger_size, vI p0.ledger_mark, .int .i32 p0.lock_mu_state, .int .u32 p0.lock_mu_sema, vI p0.given_v, .slice ca1 q_ cc2] 110) :: L)) w) h.row_n).mp h
  replace h : Fit z (sepL (pts B0 (.cells #[vI p0.ledger_size, vI p0.ledger_mark, .int .i32 p0.lock_mu_state, .int .u32 p0.lock_mu_sema, vI p0.given_v, .slice ca1 (p0.cell.set p1.toNat (⟨p2⟩ : T_atomic_Int64)).length cc2] 110) :: ro107 ca1 cc2 (p0.cell.set p1.toNat (⟨p2⟩ : T_atomic_Int64)) :: L)) _ := h.sel 2 [1, 0] (by kernel_rfl) (by kernel_rfl)
  obtain ⟨rfl, rfl⟩ := ej2 H
  exact ⟨ca1, cc2, rfl, h⟩

/-- (*plunder/cells.Shared).CAS -/
def cells_Shared_CAS (p0 : T_cells_Shared) (p1 : Int) (p2 : Int) (p3 : Int) : Option (Bool × Int × T_cells_Shared) :=
  ob1 (cells_Shared_outside p0 p1) (fun r3 => (if r3 = true then some (false, 20, p0) else if inr_ p1 p0.cell.length then (if (at_ p0.cell p1.toNat).v = p2 then some (true, 0, { p0 with cell := p0.cell.set p1.toNat (⟨p3⟩ : T_atomic_Int64) }) else some (false, 0, p0)) else none))

set_option maxRecDepth 100000 in
set_option maxHeartbeats 4000000 in
theorem cells_Shared_CAS_ok {z w : World} {L : List HProp} {p0 : T_cells_Shared} {p1 : Int} {p2 : Int} {p3 : Int} {B0 : Nat} {ca1 : Option Addr} {cc2 : Nat} {r0 : Bool} {r1 : Int} {q0 : T_cells_Shared} (H : cells_Shared_CAS p0 p1 p2 p3 = some (r0, r1, q0)) (h : Fit z (sepL (ob110 B0 p0 ca1 cc2 :: ro107 ca1 cc2 p0.cell :: L)) w)  :
    Calls Try.prog 75 #[pA B0 0, vI p1, vI p2, vI p3] w fun e w => ∃ caq0_1 : Option Addr, ∃ ccq0_2 : Nat, e = .returned (.tuple #[vB r0, vI r1]) ∧ Fit z (sepL (ob110 B0 q0 caq0_1 ccq0_2 :: ro107 caq0_1 ccq0_2 q0.cell :: L)) w := by
 unfold cells_Shared_CAS at H
 refine enter Try.func75 rfl 22 rfl rfl [(0, pA B0 0), (1, vI p1), (2, vI p2), (3, vI p3)] ⟨rfl, rfl, rfl, rfl, trivial⟩ ?_
 intro j a hr
 refine sr ?_
 refine oo [8, 9] [vB false, vI 0] hr fun a hr => ?_
 refine ln ?_
 refine wp_seq ?_
 refine sr ?_
 obtain ⟨r3, e4, H⟩ := bd1 H
 refine oo [10, 11] [pA B0 0, vI p1] hr fun a hr => ?_
 have hc := cells_Shared_outside_ok (H := e4) (h := h)
 refine cl (wn rfl) hr hc ?_; clear hc h
 rintro _ w ⟨rfl, h⟩; refine ⟨_, rfl, fun a hr => ?_⟩
 refine ln ?_
 by_cases c5 : r3 = true
 ·
  replace H := ifT c5 H
  refine cond_tt hr (c5) ?_
  refine sr ?_
  refine oo [8, 9] [vB false, vI 20] hr fun a hr => ?_
  refine ln ?_
  refine wp_ret ?_
  refine then_ret ?_
  refine end_ret2 (v := vB false) (v' := vI 20) rfl hr (by kernel_rfl) (by kernel_rfl) ?_
  obtain ⟨rfl, rfl, rfl⟩ := ej3 H
  exact ⟨ca1, cc2, rfl, h⟩
 ·
  replace H := ifF c5 H
  refine cond_ff hr (bF c5) ?_
  refine wp_skip ?_
  refine then_normal ?_
  refine sr ?_
  refine oo [13, 14, 15] [pA B0 0, pA B0 0, pA B0 5] hr fun a hr => ?_
  refine ld (wn rfl) hr (.slice ca1 p0.cell.length cc2) (h.cell 5 rfl) fun a hr => ?_
  obtain ⟨c6, H⟩ := gd H
  refine o1 hr (vI p1) fun a hr => ?_
  refine opv (wn rfl) hr (pA (blk ca1) (p1.toNat * 1)) (ri_row (k := .i64) (E := 107) rfl (by kernel_rfl) (by kernel_rfl) (by kernel_rfl) (by kernel_rfl) (h.pick 1) c6) fun a hr => ?_
  refine oo [19, 20] [vI p2, vI p3] hr fun a hr => ?_
  by_cases c7 : (at_ p0.cell p1.toNat).v = p2
  ·
   replace H := ifT c7 H
   replace h : Fit z (sepL (ro107 ca1 cc2 p0.cell :: ob110 B0 p0 ca1 cc2 :: L)) _ := h.sel 2 [1, 0] (by kernel_rfl) (by kernel_rfl)
   refine op_set_row (wn rfl) rfl rfl hr enc_T_atomic_Int64_ok h (i := p1.toNat) (q := 0) (vI p3) (vB true) (x := (at_ p0.cell p1.toNat)) (y := (⟨p3⟩ : T_atomic_Int64)) (at_ok c6) rfl rfl (by kernel_rfl) (fun hc hz => a_cas hc hz c7) fun w a h hr => ?_
   refine oo [8, 9] [vB true, vI 0] hr fun a hr => ?_
   refine wpList_nil ?_
   replace h : Fit z (sepL (rowOf 107 1 enc_T_atomic_Int64 (.slice ca1 p0.cell.length cc2) (p0.cell.set p1.toNat (⟨p3⟩ : T_atomic_Int64)) :: ob110 B0 p0 ca1 cc2 :: L)) _ := h
   refine then_normal ?_
   refine wp_ret ?_
   refine end_ret2 (v := vB true) (v' := vI 0) rfl hr (by kernel_rfl) (by kernel_rfl) ?_
   have hn7 := h.row_n
   replace h : Fit z (sepL (ro107 ca1 cc2 (p0.cell.set p1.toNat (⟨p3⟩ : T_atomic_Int64)) :: pts B0 (.cells #[vI p0.ledger_size, vI p0.ledger_mark, .int .i32 p0.lock_mu_state, .int .u32 p0.lock_mu_sema, vI p0.given_v, .slice ca1 (p0.cell.set p1.toNat (⟨p3⟩ : T_atomic_Int64)).length cc2] 110) :: L)) w := (congrArg (fun q_ : Nat => Fit z (sepL (rowOf 107 1 enc_T_atomic_Int64 (.slice ca1 q_ cc2) (p0.cell.set p1.toNat (⟨p3⟩ : T_atomic_Int64)) :: pts B0 (.cells #[vI p0.ledger_size, vI p0.ledger_mark, .int .i32 p0.lock_mu_state, .int .u32 p0.lock_mu_sema, vI p0.given_v, .slice ca1 q_ cc2] 110) :: L)) w) h.row_n).mp h
   replace h : Fit z (sepL (pts B0 (.cells #[vI p0.ledger_size, vI p0.ledger_mark, .int .i32 p0.lock_mu_state, .int .u32 p0.lock_mu_sema, vI p0.given_v, .slice ca1 (p0.cell.set p1.toNat (⟨p3⟩ : T_atomic_Int64)).length cc2] 110) :: ro107 ca1 cc2 (p0.cell.set p1.toNat (⟨p3⟩ : T_atomic_Int64)) :: L)) _ := h.sel 2 [1, 0] (by kernel_rfl) (by kernel_rfl)
   obtain ⟨rfl, rfl, rfl⟩ := ej3 H
   exact ⟨ca1, cc2, rfl, h⟩
  ·
   replace H := ifF c7 H
   refine op_call (wn rfl) rfl rfl hr (f := 106) (args := #[pA (blk ca1) (p1.toNat * 1), vI p2, vI p3]) (by kernel_rfl) (a_miss ((h.pick 1).row_cell enc_T_atomic_Int64_ok (f := 0) (at_ok c6) rfl) ((h.pick 1).row_free (Nat.lt_of_le_of_lt (Nat.zero_le _) (at_okL c6)) _) c7) ?_; rintro _ _ ⟨rfl, rfl⟩; refine ⟨_, rfl, ?_⟩; clear hr a; intro a hr
   refine oo [8, 9] [vB false, vI 0] hr fun a hr => ?_
   refine ln ?_
   refine wp_ret ?_
   refine end_ret2 (v := vB false) (v' := vI 0) rfl hr (by kernel_rfl) (by kernel_rfl) ?_
   obtain ⟨rfl, rfl, rfl⟩ := ej3 H
   exact ⟨ca1, cc2, rfl, h⟩

/-- (*plunder/cells.Shared).Add -/
def cells_Shared_Add (p0 : T_cells_Shared) (p1 : Int) (p2 : Int) : Option (Int × Int × T_cells_Shared) :=
  ob1 (cells_Shared_outside p0 p1) (fun r3 => (if r3 = true then some (0, 20, p0) else if inr_ p1 p0.cell.length then some (wi ((at_ p0.cell p1.toNat).v + p2), 0, { p0 with cell := p0.cell.set p1.toNat (⟨wi ((at_ p0.cell p1.toNat).v + p2)⟩ : T_atomic_Int64) }) else none))

set_option maxRecDepth 100000 in
set_option maxHeartbeats 4000000 in
theorem cells_Shared_Add_ok {z w : World} {L : List HProp} {p0 : T_cells_Shared} {p1 : Int} {p2 : Int} {B0 : Nat} {ca1 : Option Addr} {cc2 : Nat} {r0 : Int} {r1 : Int} {q0 : T_cells_Shared} (H : cells_Shared_Add p0 p1 p2 = some (r0, r1, q0)) (h : Fit z (sepL (ob110 B0 p0 ca1 cc2 :: ro107 ca1 cc2 p0.cell :: L)) w)  :
    Calls Try.prog 76 #[pA B0 0, vI p1, vI p2] w fun e w => ∃ caq0_1 : Option Addr, ∃ ccq0_2 : Nat, e = .returned (.tuple #[vI r0, vI r1]) ∧ Fit z (sepL (ob110 B0 q0 caq0_1 ccq0_2 :: ro107 caq0_1 ccq0_2 q0.cell :: L)) w := by
 unfold cells_Shared_Add at H
 refine enter Try.func76 rfl 19 rfl rfl [(0, pA B0 0), (1, vI p1), (2, vI p2)] ⟨rfl, rfl, rfl, trivial⟩ ?_
 intro j a hr
 refine sr ?_
 refine oo [6, 7] [vI 0, vI 0] hr fun a hr => ?_
 refine ln ?_
 refine wp_seq ?_
 refine sr ?_
 obtain ⟨r3, e4, H⟩ := bd1 H
 refine oo [8, 9] [pA B0 0, vI p1] hr fun a hr => ?_
 have hc := cells_Shared_outside_ok (H := e4) (h := h)
 refine cl (wn rfl) hr hc ?_; clear hc h
 rintro _ w ⟨rfl, h⟩; refine ⟨_, rfl, fun a hr => ?_⟩
 refine ln ?_
 by_cases c5 : r3 = true
 ·
  replace H := ifT c5 H
  refine cond_tt hr (c5) ?_
  refine sr ?_
  refine oo [6, 7] [vI 0, vI 20] hr fun a hr => ?_
  refine ln ?_
  refine wp_ret ?_
  refine then_ret ?_
  refine end_ret2 (v := vI 0) (v' := vI 20) rfl hr (by kernel_rfl) (by kernel_rfl) ?_
  obtain ⟨rfl, rfl, rfl⟩ := ej3 H
  exact ⟨ca1, cc2, rfl, h⟩
 ·
  replace H := ifF c5 H
  refine cond_ff hr (bF c5) ?_
  refine wp_skip ?_
  refine then_normal ?_
  refine sr ?_
  refine oo [11, 12, 13] [pA B0 0, pA B0 0, pA B0 5] hr fun a hr => ?_
  refine ld (wn rfl) hr (.slice ca1 p0.cell.length cc2) (h.cell 5 rfl) fun a hr => ?_
  obtain ⟨c6, H⟩ := gd H
  refine o1 hr (vI p1) fun a hr => ?_
  refine opv (wn rfl) hr (pA (blk ca1) (p1.toNat * 1)) (ri_row (k := .i64) (E := 107) rfl (by kernel_rfl) (by kernel_rfl) (by kernel_rfl) (by kernel_rfl) (h.pick 1) c6) fun a hr => ?_
  refine o1 hr (vI p2) fun a hr => ?_
  replace h : Fit z (sepL (ro107 ca1 cc2 p0.cell :: ob110 B0 p0 ca1 cc2 :: L)) _ := h.sel 2 [1, 0] (by kernel_rfl) (by kernel_rfl)
  refine op_set_row (wn rfl) rfl rfl hr enc_T_atomic_Int64_ok h (i := p1.toNat) (q := 0) (vI (wi ((at_ p0.cell p1.toNat).v + p2))) (vI (wi ((at_ p0.cell p1.toNat).v + p2))) (x := (at_ p0.cell p1.toNat)) (y := (⟨wi ((at_ p0.cell p1.toNat).v + p2)⟩ : T_atomic_Int64)) (at_ok c6) rfl rfl (by kernel_rfl) (fun hc hz => a_add hc hz) fun w a h hr => ?_
  refine oo [6, 7] [vI (wi ((at_ p0.cell p1.toNat).v + p2)), vI 0] hr fun a hr => ?_
  refine wpList_nil ?_
  replace h : Fit z (sepL (rowOf 107 1 enc_T_atomic_Int64 (.slice ca1 p0.cell.length cc2) (p0.cell.set p1.toNat (⟨wi ((at_ p0.cell p1.toNat).v + p2)⟩ : T_atomic_Int64)) :: ob110 B0 p0 ca1 cc2 :: L)) _ := h
  refine then_normal ?_
  refine wp_ret ?_
  refine end_ret2 (v := vI (wi ((at_ p0.cell p1.toNat).v + p2))) (v' := vI 0) rfl hr (by kernel_rfl) (by kernel_rfl) ?_
  have hn6 := h.row_n
  replace h : Fit z (sepL (ro107 ca1 cc2 (p0.cell.set p1.toNat (⟨wi ((at_ p0.cell p1.toNat).v + p2)⟩ : T_atomic_Int64)) :: pts B0 (.cells #[vI p0.ledger_size, vI p0.ledger_mark, .int .i32 p0.lock_mu_state, .int .u32 p0.lock_mu_sema, vI p0.given_v, .slice ca1 (p0.cell.set p1.toNat (⟨wi ((at_ p0.cell p1.toNat).v + p2)⟩ : T_atomic_Int64)).length cc2] 110) :: L)) w := (congrArg (fun q_ : Nat => Fit z (sepL (rowOf 107 1 enc_T_atomic_Int64 (.slice ca1 q_ cc2) (p0.cell.set p1.toNat (⟨wi ((at_ p0.cell p1.toNat).v + p2)⟩ : T_atomic_Int64)) :: pts B0 (.cells #[vI p0.ledger_size, vI p0.ledger_mark, .int .i32 p0.lock_mu_state, .int .u32 p0.lock_mu_sema, vI p0.given_v, .slice ca1 q_ cc2] 110) :: L)) w) h.row_n).mp h
  replace h : Fit z (sepL (pts B0 (.cells #[vI p0.ledger_size, vI p0.ledger_mark, .int .i32 p0.lock_mu_state, .int .u32 p0.lock_mu_sema, vI p0.given_v, .slice ca1 (p0.cell.set p1.toNat (⟨wi ((at_ p0.cell p1.toNat).v + p2)⟩ : T_atomic_Int64)).length cc2] 110) :: ro107 ca1 cc2 (p0.cell.set p1.toNat (⟨wi ((at_ p0.cell p1.toNat).v + p2)⟩ : T_atomic_Int64)) :: L)) _ := h.sel 2 [1, 0] (by kernel_rfl) (by kernel_rfl)
  obtain ⟨rfl, rfl, rfl⟩ := ej3 H
  exact ⟨ca1, cc2, rfl, h⟩

/-- (*plunder/cells.ledger).refuse -/
def cells_ledger_refuse (p0 : T_cells_Shared) (p1 : Int) : Option (Int) :=
  (if p1 < 1 then some 21 else (if p1 > (wi (p0.ledger_size - p0.ledger_mark)) then some 22 else some 0))

set_option maxRecDepth 100000 in
set_option maxHeartbeats 4000000 in
theorem cells_ledger_refuse_ok {z w : World} {L : List HProp} {p0 : T_cells_Shared} {p1 : Int} {B0 : Nat} {ca1 : Option Addr} {cc2 : Nat} {r0 : Int} (H : cells_ledger_refuse p0 p1 = some r0) (h : Fit z (sepL (ob110 B0 p0 ca1 cc2 :: ro107 ca1 cc2 p0.cell :: L)) w)  :
    Calls Try.prog 62 #[pA B0 0, vI p1] w fun e w => e = .returned (vI r0) ∧ Fit z (sepL (ob110 B0 p0 ca1 cc2 :: ro107 ca1 cc2 p0.cell :: L)) w := by
 unfold cells_ledger_refuse at H
 refine enter Try.func62 rfl 22 rfl rfl [(0, pA B0 0), (1, vI p1)] ⟨rfl, rfl, trivial⟩ ?_
 intro j a hr
 refine sr ?_
 refine o1 hr (vI 0) fun a hr => ?_
 refine ln ?_
 refine wp_seq ?_
 refine sr ?_
 refine oo [5, 6] [vI p1, vB (decide (p1 < 1))] hr fun a hr => ?_
 refine ln ?_
 by_cases c3 : p1 < 1
 ·
  replace H := ifT c3 H
  refine cond_tt hr (decide_eq_true c3) ?_
  refine sr ?_
  refine o1 hr (vI 21) fun a hr => ?_
  refine ln ?_
  refine wp_ret ?_
  refine then_ret ?_
  refine end_ret1 (v := vI 21) rfl hr (by kernel_rfl) ?_
  replace H := ej1 H; subst H
  exact ⟨rfl, h⟩
 ·
  replace H := ifF c3 H
  refine cond_ff hr (decide_eq_false c3) ?_
  refine wp_skip ?_
  refine then_normal ?_
  refine wp_seq ?_
  refine wp_seq ?_
  refine reg_E (fun w => heldC w B0 0 ([vI p0.ledger_size]) ∧ heldC w B0 1 ([vI p0.ledger_mark]) ∧ True) [1, 5, 6, 9, 10] h (by kernel_rfl) ?_; intro w h
  change wpAnyE _ _ _ _ _ _ 15 (Array.replicate 15 false) a w
  have hgo : ∀ w w', CellsGo w w' → (heldC w B0 0 ([vI p0.ledger_size]) ∧ heldC w B0 1 ([vI p0.ledger_mark]) ∧ True) → heldC w' B0 0 ([vI p0.ledger_size]) ∧ heldC w' B0 1 ([vI p0.ledger_mark]) ∧ True := fun w w' g hD => ⟨heldC_go _ _ _ _ _ g hD.1, heldC_go _ _ _ _ _ g hD.2.1, trivial⟩
  refine evs 14 0 rfl (wn rfl) hr (pA B0 0) fun a hr => ?_
  refine evDs hgo ⟨⟨h.cell 0 rfl, trivial⟩, ⟨h.cell 1 rfl, trivial⟩, trivial⟩ 13 1 rfl (wn rfl) hr (vB false) fun a hr => ?_
  refine evs 12 2 rfl (wn rfl) hr (vB false) fun a hr => ?_
  refine evs 11 3 rfl (wgt hr (c := false) rfl) hr (vI p1) fun a hr => ?_
  refine evs 10 4 rfl (wgt hr (c := false) rfl) hr (pA B0 0) fun a hr => ?_
  refine evDs hgo ⟨⟨h.cell 0 rfl, trivial⟩, ⟨h.cell 1 rfl, trivial⟩, trivial⟩ 9 5 rfl (wgt hr (c := false) rfl) hr (pA B0 0) fun a hr => ?_
  refine evDs hgo ⟨⟨h.cell 0 rfl, trivial⟩, ⟨h.cell 1 rfl, trivial⟩, trivial⟩ 8 6 rfl (wgt hr (c := false) rfl) hr (pA B0 0) fun a hr => ?_
  refine evs 7 8 rfl (wgt hr (c := false) rfl) hr (pA B0 0) fun a hr => ?_
  refine evDs hgo ⟨⟨h.cell 0 rfl, trivial⟩, ⟨h.cell 1 rfl, trivial⟩, trivial⟩ 6 9 rfl (wgt hr (c := false) rfl) hr (pA B0 0) fun a hr => ?_
  refine evDs hgo ⟨⟨h.cell 0 rfl, trivial⟩, ⟨h.cell 1 rfl, trivial⟩, trivial⟩ 5 10 rfl (wgt hr (c := false) rfl) hr (pA B0 1) fun a hr => ?_
  refine el [1, 5, 6, 9, 10] (b := B0) (off := 0) (cs := [vI p0.ledger_size]) (fun _ hk => ⟨hk, fun w hD => hD.1⟩) 4 7 rfl (by kernel_rfl) (wgt hr (c := false) rfl) hr (vI p0.ledger_size) ⟨h.cell 0 rfl, trivial⟩ (fun w hc => rl rfl (by kernel_rfl) (by kernel_rfl) hc.1) fun a hr => ?_
  refine el [1, 5, 6, 9, 10] (b := B0) (off := 1) (cs := [vI p0.ledger_mark]) (fun _ hk => ⟨hk, fun w hD => hD.2.1⟩) 3 11 rfl (by kernel_rfl) (wgt hr (c := false) rfl) hr (vI p0.ledger_mark) ⟨h.cell 1 rfl, trivial⟩ (fun w hc => rl rfl (by kernel_rfl) (by kernel_rfl) hc.1) fun a hr => ?_
  refine evs 2 12 rfl (wgt hr (c := false) rfl) hr (vI (wi (p0.ledger_size - p0.ledger_mark))) fun a hr => ?_
  refine evs 1 13 rfl (wgt hr (c := false) rfl) hr (vB (decide (p1 > (wi (p0.ledger_size - p0.ledger_mark))))) fun a hr => ?_
  refine evs 0 14 rfl (wn rfl) hr (vB (decide (p1 > (wi (p0.ledger_size - p0.ledger_mark))))) fun a hr => ?_
  refine e_end (by kernel_rfl) ?_
  refine then_normal ?_
  by_cases c4 : p1 > (wi (p0.ledger_size - p0.ledger_mark))
  ·
   replace H := ifT c4 H
   refine cond_tt hr (decide_eq_true c4) ?_
   refine sr ?_
   refine o1 hr (vI 22) fun a hr => ?_
   refine ln ?_
   refine wp_ret ?_
   refine then_ret ?_
   refine end_ret1 (v := vI 22) rfl hr (by kernel_rfl) ?_
   replace H := ej1 H; subst H
   exact ⟨rfl, h⟩
  ·
   replace H := ifF c4 H
   refine cond_ff hr (decide_eq_false c4) ?_
   refine wp_skip ?_
   refine then_normal ?_
   refine sr ?_
   refine o1 hr (vI 0) fun a hr => ?_
   refine ln ?_
   refine wp_ret ?_
   refine end_ret1 (v := vI 0) rfl hr (by kernel_rfl) ?_
   replace H := ej1 H; subst H
   exact ⟨rfl, h⟩

/-- (*plunder/cells.ledger).take -/
def cells_ledger_take (p0 : T_cells_Shared) (p1 : Int) : Option (Int × T_cells_Shared) :=
  some (p0.ledger_mark, { p0 with ledger_mark := wi (p0.ledger_mark + p1) })

set_option maxRecDepth 100000 in
set_option maxHeartbeats 4000000 in
theorem cells_ledger_take_ok {z w : World} {L : List HProp} {p0 : T_cells_Shared} {p1 : Int} {B0 : Nat} {ca1 : Option Addr} {cc2 : Nat} {r0 : Int} {q0 : T_cells_Shared} (H : cells_ledger_take p0 p1 = some (r0, q0)) (h : Fit z (sepL (ob110 B0 p0 ca1 cc2 :: ro107 ca1 cc2 p0.cell :: L)) w)  :
    Calls Try.prog 63 #[pA B0 0, vI p1] w fun e w => ∃ caq0_1 : Option Addr, ∃ ccq0_2 : Nat, e = .returned (vI r0) ∧ Fit z (sepL (ob110 B0 q0 caq0_1 ccq0_2 :: ro107 caq0_1 ccq0_2 q0.cell :: L)) w := by
 unfold cells_ledger_take at H
 refine enter Try.func63 rfl 19 rfl rfl [(0, pA B0 0), (1, vI p1)] ⟨rfl, rfl, trivial⟩ ?_
 intro j a hr
 refine sr ?_
 refine o1 hr (vI 0) fun a hr => ?_
 refine ln ?_
 refine sr ?_
 refine oo [6, 7, 8] [pA B0 0, pA B0 0, pA B0 1] hr fun a hr => ?_
 refine ld (wn rfl) hr (vI p0.ledger_mark) (h.cell 1 rfl) fun a hr => ?_
 refine o1 hr (vI p0.ledger_mark) fun a hr => ?_
 refine ln ?_
 refine sr ?_
 refine oo [10, 11, 12] [pA B0 0, pA B0 0, pA B0 1] hr fun a hr => ?_
 refine ld (wn rfl) hr (vI p0.ledger_mark) (h.cell 1 rfl) fun a hr => ?_
 refine oo [14, 15, 16, 17] [vI p1, vI (wi (p0.ledger_mark + p1)), pA B0 0, pA B0 1] hr fun a hr => ?_
 refine sto (wn rfl) hr h 1 (vI (wi (p0.ledger_mark + p1))) fun w h => ?_
 refine wpList_nil ?_
 replace h : Fit z (sepL (pts B0 (.cells #[vI p0.ledger_size, vI (wi (p0.ledger_mark + p1)), .int .i32 p0.lock_mu_state, .int .u32 p0.lock_mu_sema, vI p0.given_v, .slice ca1 p0.cell.length cc2] 110) :: ro107 ca1 cc2 p0.cell :: L)) _ := h
 refine then_normal ?_
 refine sr ?_
 refine oo [18, 4] [vI p0.ledger_mark, vI p0.ledger_mark] hr fun a hr => ?_
 refine ln ?_
 refine wp_ret ?_
 refine end_ret1 (v := vI p0.ledger_mark) rfl hr (by kernel_rfl) ?_
 obtain ⟨rfl, rfl⟩ := ej2 H
 exact ⟨ca1, cc2, rfl, h⟩

/-- (*plunder/cells.Shared).Reserve -/
def cells_Shared_Reserve (p0 : T_cells_Shared) (p1 : Int) : Option (Int × Int × T_cells_Shared) :=
  if p0.lock_mu_state = 0 then ob1 (cells_ledger_refuse ({ p0 with lock_mu_state := 1 }) p1) (fun r4 => (if r4 = 0 then ob2 (cells_ledger_take ({ p0 with lock_mu_state := 1 }) p1) (fun r7 S8 => if S8.lock_mu_state = 1 then some (r7, 0, { S8 with lock_mu_state := 0, given_v := wi (r7 + p1) }) else none) else some (0, r4, { p0 with lock_mu_state := 0 }))) else none

set_option maxRecDepth 100000 in
set_option maxHeartbeats 4000000 in
theorem cells_Shared_Reserve_ok {z w : World} {L : List HProp} {p0 : T_cells_Shared} {p1 : Int} {B0 : Nat} {ca1 : Option Addr} {cc2 : Nat} {r0 : Int} {r1 : Int} {q0 : T_cells_Shared} (H : cells_Shared_Reserve p0 p1 = some (r0, r1, q0)) (h : Fit z (sepL (ob110 B0 p0 ca1 cc2 :: ro107 ca1 cc2 p0.cell :: L)) w)  :
    Calls Try.prog 77 #[pA B0 0, vI p1] w fun e w => ∃ caq0_1 : Option Addr, ∃ ccq0_2 : Nat, e = .returned (.tuple #[vI r0, vI r1]) ∧ Fit z (sepL (ob110 B0 q0 caq0_1 ccq0_2 :: ro107 caq0_1 ccq0_2 q0.cell :: L)) w := by
 unfold cells_Shared_Reserve at H
 refine enterD Try.func77 rfl 42 rfl rfl [(0, pA B0 0), (1, vI p1)] ⟨rfl, rfl, trivial⟩ ?_
 intro j a hr
 refine sr ?_
 refine oo [4, 5] [vI 0, vI 0] hr fun a hr => ?_
 refine ln ?_
 refine wp_seq ?_
 refine sr ?_
 refine oo [9, 10] [pA B0 0, vB false] hr fun a hr => ?_
 refine ln ?_
 refine cond_ff hr (b := false) rfl ?_
 refine wp_skip ?_
 refine then_normal ?_
 refine sr ?_
 obtain ⟨c3, H⟩ := gd H
 refine oo [14, 15, 16] [pA B0 0, pA B0 0, pA B0 2] hr fun a hr => ?_
 refine op_lock muLib (wn rfl) rfl rfl hr h (i := 2) (cs' := #[vI p0.ledger_size, vI p0.ledger_mark, .int .i32 1, .int .u32 p0.lock_mu_sema, vI p0.given_v, .slice ca1 p0.cell.length cc2]) (congrArg (fun q => some (Value.int .i32 q)) c3) rfl (by kernel_rfl) fun w a h hr => ?_
 refine wpList_nil ?_
 replace h : Fit z (sepL (pts B0 (.cells #[vI p0.ledger_size, vI p0.ledger_mark, .int .i32 1, .int .u32 p0.lock_mu_sema, vI p0.given_v, .slice ca1 p0.cell.length cc2] 110) :: ro107 ca1 cc2 p0.cell :: L)) _ := h
 refine then_normal ?_
 refine sr ?_
 refine oo [18, 19, 20] [pA B0 0, pA B0 0, pA B0 2] hr fun a hr => ?_
 refine op_defer (wn rfl) rfl hr (q := { target := .fn (.func 83) #[], args := #[pA B0 2] }) (by kernel_rfl) fun a hr => ?_
 refine ln ?_
 refine wp_seq ?_
 refine sr ?_
 obtain ⟨r4, e5, H⟩ := bd1 H
 refine oo [21, 22, 23, 24] [pA B0 0, pA B0 0, pA B0 0, vI p1] hr fun a hr => ?_
 have hc := cells_ledger_refuse_ok (H := e5) (h := h)
 refine cl (wn rfl) hr hc ?_; clear hc h
 rintro _ w ⟨rfl, h⟩; refine ⟨_, rfl, fun a hr => ?_⟩
 refine o1 hr (vI r4) fun a hr => ?_
 refine ln ?_
 refine sr ?_
 refine oo [26, 27] [vI r4, vB (r4 != 0)] hr fun a hr => ?_
 refine ln ?_
 by_cases c6 : r4 = 0
 ·
  replace H := ifT c6 H
  refine cond_ff hr (bne_eq_false_iff_eq.mpr c6) ?_
  refine wp_skip ?_
  refine then_normal ?_
  refine sr ?_
  obtain ⟨r7, S8, e9, H⟩ := bd2 H
  refine oo [29, 30, 31, 32] [pA B0 0, pA B0 0, pA B0 0, vI p1] hr fun a hr => ?_
  have hc := cells_ledger_take_ok (H := e9) (h := h)
  refine cl (wn rfl) hr hc ?_; clear hc h
  rintro _ w ⟨caq10, ccq11, rfl, h⟩; refine ⟨_, rfl, fun a hr => ?_⟩
  refine o1 hr (vI r7) fun a hr => ?_
  refine ln ?_
  refine sr ?_
  refine oo [34, 35, 36, 37, 38, 39] [pA B0 0, pA B0 0, pA B0 4, vI r7, vI p1, vI (wi (r7 + p1))] hr fun a hr => ?_
  refine op_set_pts (wn rfl) rfl rfl hr h (i := 4) (cs' := #[vI S8.ledger_size, vI S8.ledger_mark, .int .i32 S8.lock_mu_state, .int .u32 S8.lock_mu_sema, vI (wi (r7 + p1)), .slice caq10 S8.cell.length ccq11]) (vI (wi (r7 + p1))) (.tuple #[]) rfl rfl (by kernel_rfl) (fun hc hz => a_store hc hz) fun w a h hr => ?_
  refine wpList_nil ?_
  replace h : Fit z (sepL (pts B0 (.cells #[vI S8.ledger_size, vI S8.ledger_mark, .int .i32 S8.lock_mu_state, .int .u32 S8.lock_mu_sema, vI (wi (r7 + p1)), .slice caq10 S8.cell.length ccq11] 110) :: ro107 caq10 ccq11 S8.cell :: L)) _ := h
  refine then_normal ?_
  refine sr ?_
  refine oo [41, 4, 5] [vI r7, vI r7, vI 0] hr fun a hr => ?_
  refine ln ?_
  refine wp_ret ?_
  obtain ⟨c12, H⟩ := gd H
  refine endD_unlock muLib hr (fun w => res2 (v := vI r7) (v' := vI 0) rfl hr (by kernel_rfl) (by kernel_rfl) w) (fun _ => by kernel_rfl) h (i := 2) (cs' := #[vI S8.ledger_size, vI S8.ledger_mark, .int .i32 0, .int .u32 S8.lock_mu_sema, vI (wi (r7 + p1)), .slice caq10 S8.cell.length ccq11]) (congrArg (fun q => some (Value.int .i32 q)) c12) rfl fun w h => ?_
  obtain ⟨rfl, rfl, rfl⟩ := ej3 H
  exact ⟨caq10, ccq11, rfl, h⟩
 ·
  replace H := ifF c6 H
  refine cond_tt hr (bne_iff_ne.mpr c6) ?_
  refine sr ?_
  refine oo [28, 4, 5] [vI r4, vI 0, vI r4] hr fun a hr => ?_
  refine ln ?_
  refine wp_ret ?_
  refine then_ret ?_
  refine endD_unlock muLib hr (fun w => res2 (v := vI 0) (v' := vI r4) rfl hr (by kernel_rfl) (by kernel_rfl) w) (fun _ => by kernel_rfl) h (i := 2) (cs' := #[vI p0.ledger_size, vI p0.ledger_mark, .int .i32 0, .int .u32 p0.lock_mu_sema, vI p0.given_v, .slice ca1 p0.cell.length cc2]) rfl rfl fun w h => ?_
  obtain ⟨rfl, rfl, rfl⟩ := ej3 H
  exact ⟨ca1, cc2, rfl, h⟩

/-- plunder/plunderlaw2.shared -/
def plunderlaw2_shared (p0 : T_cells_Shared) (p1 : T_plunderlaw2_Move) : Option (T_api_Effect × T_cells_Shared) :=
  (if p1.Kind = 0 then ob2 (cells_Shared_Load p0 p1.Addr) (fun r6 r7 => some ((⟨r6, r7 == 0, r7⟩ : T_api_Effect), p0)) else (if p1.Kind = 1 then ob2 (cells_Shared_Store p0 p1.Addr p1.A) (fun r10 S11 => some ((⟨0, r10 == 0, r10⟩ : T_api_Effect), S11)) else (if p1.Kind = 2 then ob3 (cells_Shared_CAS p0 p1.Addr p1.A p1.B) (fun r16 r17 S18 => some ((⟨0, r16, r17⟩ : T_api_Effect), S18)) else (if p1.Kind = 3 then ob3 (cells_Shared_Add p0 p1.Addr p1.A) (fun r23 r24 S25 => some ((⟨r23, r24 == 0, r24⟩ : T_api_Effect), S25)) else ob3 (cells_Shared_Reserve p0 p1.A) (fun r29 r30 S31 => some ((⟨r29, r30 == 0, r30⟩ : T_api_Effect), S31))))))

set_option maxRecDepth 100000 in
set_option maxHeartbeats 4000000 in
theorem plunderlaw2_shared_ok {z w : World} {L : List HProp} {p0 : T_cells_Shared} {p1 : T_plunderlaw2_Move} {B0 : Nat} {ca1 : Option Addr} {cc2 : Nat} {r0 : T_api_Effect} {q0 : T_cells_Shared} (H : plunderlaw2_shared p0 p1 = some (r0, q0)) (h : Fit z (sepL (ob110 B0 p0 ca1 cc2 :: ro107 ca1 cc2 p0.cell :: L)) w)  :
    Calls Try.prog 29 #[pA B0 0, ag_T_plunderlaw2_Move p1] w fun e w => ∃ caq0_1 : Option Addr, ∃ ccq0_2 : Nat, e = .returned (ag_T_api_Effect r0) ∧ Fit z (sepL (ob110 B0 q0 caq0_1 ccq0_2 :: ro107 caq0_1 ccq0_2 q0.cell :: L)) w := by
 unfold plunderlaw2_shared at H
 refine enter Try.func29 rfl 86 rfl rfl [(0, pA B0 0), (1, ag_T_plunderlaw2_Move p1)] ⟨rfl, rfl, trivial⟩ ?_
 intro j a hr
 refine sr ?_
 refine onew (wn rfl) hr h nb (ca_T_plunderlaw2_Move p1) 30 fun b3 w a h hr => ?_
 refine onew (wn rfl) hr h nb (#[vI 0, vB false, vI 0]) 39 fun b4 w a h hr => ?_
 refine ln ?_
 refine wp_seq ?_
 refine sr ?_
 refine o1 hr (pA b3 1) fun a hr => ?_
 refine ld (wn rfl) hr (vI p1.Kind) ((h.pick 1).cell 1 rfl) fun a hr => ?_
 refine ln ?_
 refine wp_block ?_
 refine sr ?_
 refine oo [17, 16] [vB (p1.Kind == 0), vB (p1.Kind == 0)] hr fun a hr => ?_
 refine ln ?_
 by_cases c5 : p1.Kind = 0
 ·
  replace H := ifT c5 H
  refine cond_tt hr (beq_iff_eq.mpr c5) ?_
  refine sr ?_
  refine oo [19, 20] [pA B0 0, pA b3 2] hr fun a hr => ?_
  refine ld (wn rfl) hr (vI p1.Addr) ((h.pick 1).cell 2 rfl) fun a hr => ?_
  obtain ⟨r6, r7, e8, H⟩ := bd2 H
  replace h : Fit z (sepL (ob110 B0 p0 ca1 cc2 :: ro107 ca1 cc2 p0.cell :: pts b4 (.cells #[vI 0, vB false, vI 0] 39) :: ob30 b3 p1 :: L)) _ := h.sel 4 [2, 3, 0, 1] (by kernel_rfl) (by kernel_rfl)
  have hc := cells_Shared_Load_ok (H := e8) (h := h)
  refine cl (wn rfl) hr hc ?_; clear hc h
  rintro _ w ⟨rfl, h⟩; refine ⟨_, rfl, fun a hr => ?_⟩
  refine oo [18, 23, 24, 5, 6] [.tuple #[vI r6, vI r7], vI r6, vI r7, vI r6, vI r7] hr fun a hr => ?_
  refine ln ?_
  refine sr ?_
  refine oo [25, 26, 27, 28, 29] [vI r6, vI r7, vB (r7 == 0), vI r7, .agg #[vI r6, vB (r7 == 0), vI r7]] hr fun a hr => ?_
  replace h : Fit z (sepL (pts b4 (.cells #[vI 0, vB false, vI 0] 39) :: ob110 B0 p0 ca1 cc2 :: ro107 ca1 cc2 p0.cell :: ob30 b3 p1 :: L)) _ := h.sel 4 [2, 0, 1, 3] (by kernel_rfl) (by kernel_rfl)
  refine stos (wn rfl) hr h 0 ([vI r6, vB (r7 == 0), vI r7]) (#[vI r6, vB (r7 == 0), vI r7]) fun w h => ?_
  refine wpList_nil ?_
  replace h : Fit z (sepL (pts b4 (.cells #[vI r6, vB (r7 == 0), vI r7] 39) :: ob110 B0 p0 ca1 cc2 :: ro107 ca1 cc2 p0.cell :: ob30 b3 p1 :: L)) _ := h
  refine then_normal ?_
  refine wp_ret ?_
  refine blk_ret ?_
  refine then_ret ?_
  refine end_retC (cs := [vI r6, vB (r7 == 0), vI r7]) rfl hr (by kernel_rfl) (by kernel_rfl) (by kernel_rfl) (h.held 0 rfl) ?_
  replace h : Fit z (sepL (ob110 B0 p0 ca1 cc2 :: ro107 ca1 cc2 p0.cell :: L)) _ := h.sel 4 [1, 2] (by kernel_rfl) (by kernel_rfl)
  obtain ⟨rfl, rfl⟩ := ej2 H
  exact ⟨ca1, cc2, rfl, h⟩
 ·
  replace H := ifF c5 H
  refine cond_ff hr (beq_eq_false_iff_ne.mpr c5) ?_
  refine sr ?_
  refine oo [31, 30] [vB (p1.Kind == 1), vB (p1.Kind == 1)] hr fun a hr => ?_
  refine ln ?_
  by_cases c9 : p1.Kind = 1
  ·
   replace H := ifT c9 H
   refine cond_tt hr (beq_iff_eq.mpr c9) ?_
   refine sr ?_
   refine oo [32, 33] [pA B0 0, pA b3 2] hr fun a hr => ?_
   refine ld (wn rfl) hr (vI p1.Addr) ((h.pick 1).cell 2 rfl) fun a hr => ?_
   refine o1 hr (pA b3 3) fun a hr => ?_
   refine ld (wn rfl) hr (vI p1.A) ((h.pick 1).cell 3 rfl) fun a hr => ?_
   obtain ⟨r10, S11, e12, H⟩ := bd2 H
   replace h : Fit z (sepL (ob110 B0 p0 ca1 cc2 :: ro107 ca1 cc2 p0.cell :: pts b4 (.cells #[vI 0, vB false, vI 0] 39) :: ob30 b3 p1 :: L)) _ := h.sel 4 [2, 3, 0, 1] (by kernel_rfl) (by kernel_rfl)
   have hc := cells_Shared_Store_ok (H := e12) (h := h)
   refine cl (wn rfl) hr hc ?_; clear hc h
   rintro _ w ⟨caq13, ccq14, rfl, h⟩; refine ⟨_, rfl, fun a hr => ?_⟩
   refine o1 hr (vI r10) fun a hr => ?_
   refine ln ?_
   refine sr ?_
   refine oo [38, 39, 40, 41] [vI r10, vB (r10 == 0), vI r10, .agg #[vI 0, vB (r10 == 0), vI r10]] hr fun a hr => ?_
   replace h : Fit z (sepL (pts b4 (.cells #[vI 0, vB false, vI 0] 39) :: ob110 B0 S11 caq13 ccq14 :: ro107 caq13 ccq14 S11.cell :: ob30 b3 p1 :: L)) _ := h.sel 4 [2, 0, 1, 3] (by kernel_rfl) (by kernel_rfl)
   refine stos (wn rfl) hr h 0 ([vI 0, vB (r10 == 0), vI r10]) (#[vI 0, vB (r10 == 0), vI r10]) fun w h => ?_
   refine wpList_nil ?_
   replace h : Fit z (sepL (pts b4 (.cells #[vI 0, vB (r10 == 0), vI r10] 39) :: ob110 B0 S11 caq13 ccq14 :: ro107 caq13 ccq14 S11.cell :: ob30 b3 p1 :: L)) _ := h
   refine then_normal ?_
   refine wp_ret ?_
   refine blk_ret ?_
   refine then_ret ?_
   refine end_retC (cs := [vI 0, vB (r10 == 0), vI r10]) rfl hr (by kernel_rfl) (by kernel_rfl) (by kernel_rfl) (h.held 0 rfl) ?_
   replace h : Fit z (sepL (ob110 B0 S11 caq13 ccq14 :: ro107 caq13 ccq14 S11.cell :: L)) _ := h.sel 4 [1, 2] (by kernel_rfl) (by kernel_rfl)
   obtain ⟨rfl, rfl⟩ := ej2 H
   exact ⟨caq13, ccq14, rfl, h⟩
  ·
   replace H := ifF c9 H
   refine cond_ff hr (beq_eq_false_iff_ne.mpr c9) ?_
   refine sr ?_
   refine oo [43, 42] [vB (p1.Kind == 2), vB (p1.Kind == 2)] hr fun a hr => ?_
   refine ln ?_
   by_cases c15 : p1.Kind = 2
   ·
    replace H := ifT c15 H
    refine cond_tt hr (beq_iff_eq.mpr c15) ?_
    refine sr ?_
    refine oo [45, 46] [pA B0 0, pA b3 2] hr fun a hr => ?_
    refine ld (wn rfl) hr (vI p1.Addr) ((h.pick 1).cell 2 rfl) fun a hr => ?_
    refine o1 hr (pA b3 3) fun a hr => ?_
    refine ld (wn rfl) hr (vI p1.A) ((h.pick 1).cell 3 rfl) fun a hr => ?_
    refine o1 hr (pA b3 4) fun a hr => ?_
    refine ld (wn rfl) hr (vI p1.B) ((h.pick 1).cell 4 rfl) fun a hr => ?_
    obtain ⟨r16, r17, S18, e19, H⟩ := bd3 H
    replace h : Fit z (sepL (ob110 B0 p0 ca1 cc2 :: ro107 ca1 cc2 p0.cell :: pts b4 (.cells #[vI 0, vB false, vI 0] 39) :: ob30 b3 p1 :: L)) _ := h.sel 4 [2, 3, 0, 1] (by kernel_rfl) (by kernel_rfl)
    have hc := cells_Shared_CAS_ok (H := e19) (h := h)
    refine cl (wn rfl) hr hc ?_; clear hc h
    rintro _ w ⟨caq20, ccq21, rfl, h⟩; refine ⟨_, rfl, fun a hr => ?_⟩
    refine oo [44, 53, 54, 8, 9] [.tuple #[vB r16, vI r17], vB r16, vI r17, vB r16, vI r17] hr fun a hr => ?_
    refine ln ?_
    refine sr ?_
    refine oo [55, 56, 57] [vB r16, vI r17, .agg #[vI 0, vB r16, vI r17]] hr fun a hr => ?_
    replace h : Fit z (sepL (pts b4 (.cells #[vI 0, vB false, vI 0] 39) :: ob110 B0 S18 caq20 ccq21 :: ro107 caq20 ccq21 S18.cell :: ob30 b3 p1 :: L)) _ := h.sel 4 [2, 0, 1, 3] (by kernel_rfl) (by kernel_rfl)
    refine stos (wn rfl) hr h 0 ([vI 0, vB r16, vI r17]) (#[vI 0, vB r16, vI r17]) fun w h => ?_
    refine wpList_nil ?_
    replace h : Fit z (sepL (pts b4 (.cells #[vI 0, vB r16, vI r17] 39) :: ob110 B0 S18 caq20 ccq21 :: ro107 caq20 ccq21 S18.cell :: ob30 b3 p1 :: L)) _ := h
    refine then_normal ?_
    refine wp_ret ?_
    refine blk_ret ?_
    refine then_ret ?_
    refine end_retC (cs := [vI 0, vB r16, vI r17]) rfl hr (by kernel_rfl) (by kernel_rfl) (by kernel_rfl) (h.held 0 rfl) ?_
    replace h : Fit z (sepL (ob110 B0 S18 caq20 ccq21 :: ro107 caq20 ccq21 S18.cell :: L)) _ := h.sel 4 [1, 2] (by kernel_rfl) (by kernel_rfl)
    obtain ⟨rfl, rfl⟩ := ej2 H
    exact ⟨caq20, ccq21, rfl, h⟩
   ·
    replace H := ifF c15 H
    refine cond_ff hr (beq_eq_false_iff_ne.mpr c15) ?_
    refine sr ?_
    refine oo [59, 58] [vB (p1.Kind == 3), vB (p1.Kind == 3)] hr fun a hr => ?_
    refine ln ?_
    by_cases c22 : p1.Kind = 3
    ·
     replace H := ifT c22 H
     refine cond_tt hr (beq_iff_eq.mpr c22) ?_
     refine sr ?_
     refine oo [61, 62] [pA B0 0, pA b3 2] hr fun a hr => ?_
     refine ld (wn rfl) hr (vI p1.Addr) ((h.pick 1).cell 2 rfl) fun a hr => ?_
     refine o1 hr (pA b3 3) fun a hr => ?_
     refine ld (wn rfl) hr (vI p1.A) ((h.pick 1).cell 3 rfl) fun a hr => ?_
     obtain ⟨r23, r24, S25, e26, H⟩ := bd3 H
     replace h : Fit z (sepL (ob110 B0 p0 ca1 cc2 :: ro107 ca1 cc2 p0.cell :: pts b4 (.cells #[vI 0, vB false, vI 0] 39) :: ob30 b3 p1 :: L)) _ := h.sel 4 [2, 3, 0, 1] (by kernel_rfl) (by kernel_rfl)
     have hc := cells_Shared_Add_ok (H := e26) (h := h)
     refine cl (wn rfl) hr hc ?_; clear hc h
     rintro _ w ⟨caq27, ccq28, rfl, h⟩; refine ⟨_, rfl, fun a hr => ?_⟩
     refine oo [60, 67, 68, 10, 11] [.tuple #[vI r23, vI r24], vI r23, vI r24, vI r23, vI r24] hr fun a hr => ?_
     refine ln ?_
     refine sr ?_
     refine oo [69, 70, 71, 72, 73] [vI r23, vI r24, vB (r24 == 0), vI r24, .agg #[vI r23, vB (r24 == 0), vI r24]] hr fun a hr => ?_
     replace h : Fit z (sepL (pts b4 (.cells #[vI 0, vB false, vI 0] 39) :: ob110 B0 S25 caq27 ccq28 :: ro107 caq27 ccq28 S25.cell :: ob30 b3 p1 :: L)) _ := h.sel 4 [2, 0, 1, 3] (by kernel_rfl) (by kernel_rfl)
     refine stos (wn rfl) hr h 0 ([vI r23, vB (r24 == 0), vI r24]) (#[vI r23, vB (r24 == 0), vI r24]) fun w h => ?_
     refine wpList_nil ?_
     replace h : Fit z (sepL (pts b4 (.cells #[vI r23, vB (r24 == 0), vI r24] 39) :: ob110 B0 S25 caq27 ccq28 :: ro107 caq27 ccq28 S25.cell :: ob30 b3 p1 :: L)) _ := h
     refine then_normal ?_
     refine wp_ret ?_
     refine blk_ret ?_
     refine then_ret ?_
     refine end_retC (cs := [vI r23, vB (r24 == 0), vI r24]) rfl hr (by kernel_rfl) (by kernel_rfl) (by kernel_rfl) (h.held 0 rfl) ?_
     replace h : Fit z (sepL (ob110 B0 S25 caq27 ccq28 :: ro107 caq27 ccq28 S25.cell :: L)) _ := h.sel 4 [1, 2] (by kernel_rfl) (by kernel_rfl)
     obtain ⟨rfl, rfl⟩ := ej2 H
     exact ⟨caq27, ccq28, rfl, h⟩
    ·
     replace H := ifF c22 H
     refine cond_ff hr (beq_eq_false_iff_ne.mpr c22) ?_
     refine wp_skip ?_
     refine blk_normal ?_
     refine then_normal ?_
     refine sr ?_
     refine oo [75, 76] [pA B0 0, pA b3 3] hr fun a hr => ?_
     refine ld (wn rfl) hr (vI p1.A) ((h.pick 1).cell 3 rfl) fun a hr => ?_
     obtain ⟨r29, r30, S31, e32, H⟩ := bd3 H
     replace h : Fit z (sepL (ob110 B0 p0 ca1 cc2 :: ro107 ca1 cc2 p0.cell :: pts b4 (.cells #[vI 0, vB false, vI 0] 39) :: ob30 b3 p1 :: L)) _ := h.sel 4 [2, 3, 0, 1] (by kernel_rfl) (by kernel_rfl)
     have hc := cells_Shared_Reserve_ok (H := e32) (h := h)
     refine cl (wn rfl) hr hc ?_; clear hc h
     rintro _ w ⟨caq33, ccq34, rfl, h⟩; refine ⟨_, rfl, fun a hr => ?_⟩
     refine oo [74, 79, 80, 12, 13] [.tuple #[vI r29, vI r30], vI r29, vI r30, vI r29, vI r30] hr fun a hr => ?_
     refine ln ?_
     refine sr ?_
     refine oo [81, 82, 83, 84, 85] [vI r29, vI r30, vB (r30 == 0), vI r30, .agg #[vI r29, vB (r30 == 0), vI r30]] hr fun a hr => ?_
     replace h : Fit z (sepL (pts b4 (.cells #[vI 0, vB false, vI 0] 39) :: ob110 B0 S31 caq33 ccq34 :: ro107 caq33 ccq34 S31.cell :: ob30 b3 p1 :: L)) _ := h.sel 4 [2, 0, 1, 3] (by kernel_rfl) (by kernel_rfl)
     refine stos (wn rfl) hr h 0 ([vI r29, vB (r30 == 0), vI r30]) (#[vI r29, vB (r30 == 0), vI r30]) fun w h => ?_
     refine wpList_nil ?_
     replace h : Fit z (sepL (pts b4 (.cells #[vI r29, vB (r30 == 0), vI r30] 39) :: ob110 B0 S31 caq33 ccq34 :: ro107 caq33 ccq34 S31.cell :: ob30 b3 p1 :: L)) _ := h
     refine then_normal ?_
     refine wp_ret ?_
     refine end_retC (cs := [vI r29, vB (r30 == 0), vI r30]) rfl hr (by kernel_rfl) (by kernel_rfl) (by kernel_rfl) (h.held 0 rfl) ?_
     replace h : Fit z (sepL (ob110 B0 S31 caq33 ccq34 :: ro107 caq33 ccq34 S31.cell :: L)) _ := h.sel 4 [1, 2] (by kernel_rfl) (by kernel_rfl)
     obtain ⟨rfl, rfl⟩ := ej2 H
     exact ⟨caq33, ccq34, rfl, h⟩

/-- plunder/plunderlaw2.act -/
def plunderlaw2_act (p0 : T_plunderlaw2_Move) : Option (T_api_Act) :=
  some (⟨0, p0.Kind, p0.Addr, p0.A, p0.B⟩ : T_api_Act)

set_option maxRecDepth 100000 in
set_option maxHeartbeats 4000000 in
theorem plunderlaw2_act_ok {z w : World} {L : List HProp} {p0 : T_plunderlaw2_Move} {r0 : T_api_Act} (H : plunderlaw2_act p0 = some r0) (h : Fit z (sepL (L)) w)  :
    Calls Try.prog 31 #[ag_T_plunderlaw2_Move p0] w fun e w => e = .returned (ag_T_api_Act r0) ∧ Fit z (sepL (L)) w := by
 unfold plunderlaw2_act at H
 refine enter Try.func31 rfl 12 rfl rfl [(0, ag_T_plunderlaw2_Move p0)] ⟨rfl, trivial⟩ ?_
 intro j a hr
 refine sr ?_
 refine onew (wn rfl) hr h nb (ca_T_plunderlaw2_Move p0) 30 fun b1 w a h hr => ?_
 refine onew (wn rfl) hr h nb (#[vI 0, vI 0, vI 0, vI 0, vI 0]) 57 fun b2 w a h hr => ?_
 refine ln ?_
 refine sr ?_
 refine o1 hr (pA b1 1) fun a hr => ?_
 refine ld (wn rfl) hr (vI p0.Kind) ((h.pick 1).cell 1 rfl) fun a hr => ?_
 refine o1 hr (pA b1 2) fun a hr => ?_
 refine ld (wn rfl) hr (vI p0.Addr) ((h.pick 1).cell 2 rfl) fun a hr => ?_
 refine o1 hr (pA b1 3) fun a hr => ?_
 refine ld (wn rfl) hr (vI p0.A) ((h.pick 1).cell 3 rfl) fun a hr => ?_
 refine o1 hr (pA b1 4) fun a hr => ?_
 refine ld (wn rfl) hr (vI p0.B) ((h.pick 1).cell 4 rfl) fun a hr => ?_
 refine o1 hr (.agg #[vI 0, vI p0.Kind, vI p0.Addr, vI p0.A, vI p0.B]) fun a hr => ?_
 refine stos (wn rfl) hr h 0 ([vI 0, vI p0.Kind, vI p0.Addr, vI p0.A, vI p0.B]) (#[vI 0, vI p0.Kind, vI p0.Addr, vI p0.A, vI p0.B]) fun w h => ?_
 refine wpList_nil ?_
 replace h : Fit z (sepL (pts b2 (.cells #[vI 0, vI p0.Kind, vI p0.Addr, vI p0.A, vI p0.B] 57) :: ob30 b1 p0 :: L)) _ := h
 refine then_normal ?_
 refine wp_ret ?_
 refine end_retC (cs := [vI 0, vI p0.Kind, vI p0.Addr, vI p0.A, vI p0.B]) rfl hr (by kernel_rfl) (by kernel_rfl) (by kernel_rfl) (h.held 0 rfl) ?_
 replace h : Fit z (sepL (L)) _ := h.sel 2 [] (by kernel_rfl) (by kernel_rfl)
 replace H := ej1 H; subst H
 exact ⟨rfl, h⟩

/-- plunder/plunderref2.refused -/
def plunderref2_refused (p0 : Int) : Option (T_api_Effect) :=
  some (⟨0, false, p0⟩ : T_api_Effect)

set_option maxRecDepth 100000 in
set_option maxHeartbeats 4000000 in
theorem plunderref2_refused_ok {z w : World} {L : List HProp} {p0 : Int} {r0 : T_api_Effect} (H : plunderref2_refused p0 = some r0) (h : Fit z (sepL (L)) w)  :
    Calls Try.prog 78 #[vI p0] w fun e w => e = .returned (ag_T_api_Effect r0) ∧ Fit z (sepL (L)) w := by
 unfold plunderref2_refused at H
 refine enter Try.func78 rfl 5 rfl rfl [(0, vI p0)] ⟨rfl, trivial⟩ ?_
 intro j a hr
 refine sr ?_
 refine onew (wn rfl) hr h nb (#[vI 0, vB false, vI 0]) 39 fun b1 w a h hr => ?_
 refine ln ?_
 refine sr ?_
 refine oo [3, 4] [vI p0, .agg #[vI 0, vB false, vI p0]] hr fun a hr => ?_
 refine stos (wn rfl) hr h 0 ([vI 0, vB false, vI p0]) (#[vI 0, vB false, vI p0]) fun w h => ?_
 refine wpList_nil ?_
 replace h : Fit z (sepL (pts b1 (.cells #[vI 0, vB false, vI p0] 39) :: L)) _ := h
 refine then_normal ?_
 refine wp_ret ?_
 refine end_retC (cs := [vI 0, vB false, vI p0]) rfl hr (by kernel_rfl) (by kernel_rfl) (by kernel_rfl) (h.held 0 rfl) ?_
 replace h : Fit z (sepL (L)) _ := h.sel 1 [] (by kernel_rfl) (by kernel_rfl)
 replace H := ej1 H; subst H
 exact ⟨rfl, h⟩

/-- (*plunder/plunderref2.Arena).note -/
def plunderref2_Arena_note (p0 : T_plunderref2_Arena) (p1 : T_api_Access) : Option (T_plunderref2_Arena) :=
  (if p0.On = true then if (p0.Book.length + 1) * 48 ≤ 140737488355328 then some ({ p0 with Book := p0.Book ++ [p1] }) else none else some p0)

set_option maxRecDepth 100000 in
set_option maxHeartbeats 4000000 in
theorem plunderref2_Arena_note_ok {z w : World} {L : List HProp} {p0 : T_plunderref2_Arena} {p1 : T_api_Access} {B0 : Nat} {ca1 : Option Addr} {cc2 : Nat} {ca3 : Option Addr} {cc4 : Nat} {q0 : T_plunderref2_Arena} (H : plunderref2_Arena_note p0 p1 = some q0) (h : Fit z (sepL (ob62 B0 p0 ca1 cc2 ca3 cc4 :: ro2 ca1 cc2 p0.Held :: ro90 ca3 cc4 p0.Book :: L)) w)  :
    Calls Try.prog 80 #[pA B0 0, ag_T_api_Access p1] w fun e w => ∃ caq0_1 : Option Addr, ∃ ccq0_2 : Nat, ∃ caq0_3 : Option Addr, ∃ ccq0_4 : Nat, e = .returned (.tuple #[]) ∧ Fit z (sepL (ob62 B0 q0 caq0_1 ccq0_2 caq0_3 ccq0_4 :: ro2 caq0_1 ccq0_2 q0.Held :: ro90 caq0_3 ccq0_4 q0.Book :: L)) w := by
 unfold plunderref2_Arena_note at H
 refine enter Try.func80 rfl 18 rfl rfl [(0, pA B0 0), (1, ag_T_api_Access p1)] ⟨rfl, rfl, trivial⟩ ?_
 intro j a hr
 refine sr ?_
 refine onew (wn rfl) hr h nb (ca_T_api_Access p1) 90 fun b5 w a h hr => ?_
 refine ln ?_
 refine sr ?_
 refine oo [4, 5, 6] [pA B0 0, pA B0 0, pA B0 2] hr fun a hr => ?_
 refine ld (wn rfl) hr (vB p0.On) ((h.pick 1).cell 2 rfl) fun a hr => ?_
 refine ln ?_
 by_cases c6 : p0.On = true
 ·
  replace H := ifT c6 H
  refine cond_tt hr (c6) ?_
  obtain ⟨c10, H⟩ := gd H
  refine reg_E (fun w => heldC w B0 4 ([.slice ca3 p0.Book.length cc4]) ∧ heldC w b5 0 (cl_T_api_Access p1) ∧ True) [2, 3] h (by kernel_rfl) ?_; intro w h
  change wpAnyE _ _ _ _ _ _ 11 (Array.replicate 11 false) a w
  have hgo : ∀ w w', CellsGo w w' → (heldC w B0 4 ([.slice ca3 p0.Book.length cc4]) ∧ heldC w b5 0 (cl_T_api_Access p1) ∧ True) → heldC w' B0 4 ([.slice ca3 p0.Book.length cc4]) ∧ heldC w' b5 0 (cl_T_api_Access p1) ∧ True := fun w w' g hD => ⟨heldC_go _ _ _ _ _ g hD.1, heldC_go _ _ _ _ _ g hD.2.1, trivial⟩
  refine evs 10 0 rfl (wn rfl) hr (pA B0 0) fun a hr => ?_
  refine evs 9 1 rfl (wn rfl) hr (pA B0 0) fun a hr => ?_
  refine evDs hgo ⟨⟨(h.pick 1).cell 4 rfl, trivial⟩, (h.held 0 rfl), trivial⟩ 8 2 rfl (wn rfl) hr (pA B0 0) fun a hr => ?_
  refine evDs hgo ⟨⟨(h.pick 1).cell 4 rfl, trivial⟩, (h.held 0 rfl), trivial⟩ 7 3 rfl (wn rfl) hr (pA B0 4) fun a hr => ?_
  refine el [2, 3] (b := B0) (off := 4) (cs := [.slice ca3 p0.Book.length cc4]) (fun _ hk => ⟨hk, fun w hD => hD.1⟩) 6 4 rfl (by kernel_rfl) (wn rfl) hr (.slice ca3 p0.Book.length cc4) ⟨(h.pick 1).cell 4 rfl, trivial⟩ (fun w hc => rl rfl (by kernel_rfl) (by kernel_rfl) hc.1) fun a hr => ?_
  refine el [2, 3] (b := b5) (off := 0) (cs := cl_T_api_Access p1) (fun _ hk => ⟨hk, fun w hD => hD.2.1⟩) 5 5 rfl (by kernel_rfl) (wn rfl) hr (ag_T_api_Access p1) (h.held 0 rfl) (fun w hc => rlm (cs := cl_T_api_Access p1) rfl (by kernel_rfl) (by kernel_rfl) (by kernel_rfl) hc) fun a hr => ?_
  refine e_one (fuel := 4) (i := 6) (by kernel_rfl) rfl ?_
  refine onew (wn rfl) hr h (fun b => .slice (some ⟨b, 0, none⟩) 1 1) (ca_T_api_Access p1) 90 fun b7 w a h hr => ?_
  refine wpList_nil ?_; refine then_normal ?_
  refine ⟨fun hE => absurd hE (by decide), ?_⟩
  refine e_one (fuel := 3) (i := 7) (by kernel_rfl) rfl ?_
  replace h : Fit z (sepL (ro90 ca3 cc4 p0.Book :: ob90 b7 p1 :: ob90 b5 p1 :: ob62 B0 p0 ca1 cc2 ca3 cc4 :: ro2 ca1 cc2 p0.Held :: L)) _ := h.sel 5 [4, 0, 1, 2, 3] (by kernel_rfl) (by kernel_rfl)
  refine op_append (n0 := p0.Book.length) (c := 1) (bytes := 48) (wn rfl) rfl rfl hr rfl (by kernel_rfl) (by kernel_rfl) enc_T_api_Access_ok (E := 90) (xs := p0.Book) (by kernel_rfl) (by kernel_rfl) h (news := [p1]) (m := 1) rfl ((h.pick 1).news rfl) c10 rfl fun ca8 cc9 w a h hr => ?_
  refine wpList_nil ?_; refine then_normal ?_
  replace h : Fit z (sepL (ro90 ca8 cc9 (p0.Book ++ [p1]) :: ob90 b7 p1 :: ob90 b5 p1 :: ob62 B0 p0 ca1 cc2 ca3 cc4 :: ro2 ca1 cc2 p0.Held :: L)) _ := h
  refine ⟨fun hE => absurd hE (by decide), ?_⟩
  refine evs 2 8 rfl (wn rfl) hr (pA B0 0) fun a hr => ?_
  refine evs 1 9 rfl (wn rfl) hr (pA B0 4) fun a hr => ?_
  refine e_one (fuel := 0) (i := 10) (by kernel_rfl) rfl ?_
  replace h : Fit z (sepL (ob62 B0 p0 ca1 cc2 ca3 cc4 :: ro90 ca8 cc9 (p0.Book ++ [p1]) :: ob90 b7 p1 :: ob90 b5 p1 :: ro2 ca1 cc2 p0.Held :: L)) _ := h.sel 5 [3, 0, 1, 2, 4] (by kernel_rfl) (by kernel_rfl)
  refine sto (wn rfl) hr h 4 (.slice ca8 (p0.Book ++ [p1]).length cc9) fun w h => ?_
  refine wpList_nil ?_; refine then_normal ?_
  replace h : Fit z (sepL (pts B0 (.cells #[vI p0.Most, .slice ca1 p0.Held.length cc2, vB p0.On, vI p0.Actor, .slice ca8 (p0.Book ++ [p1]).length cc9] 62) :: ro90 ca8 cc9 (p0.Book ++ [p1]) :: ob90 b7 p1 :: ob90 b5 p1 :: ro2 ca1 cc2 p0.Held :: L)) _ := h
  refine ⟨fun hE => absurd hE (by decide), ?_⟩
  refine e_end (by kernel_rfl) ?_
  refine end_norm0 rfl hr ?_
  replace h : Fit z (sepL (pts B0 (.cells #[vI p0.Most, .slice ca1 p0.Held.length cc2, vB p0.On, vI p0.Actor, .slice ca8 (p0.Book ++ [p1]).length cc9] 62) :: ro2 ca1 cc2 p0.Held :: ro90 ca8 cc9 (p0.Book ++ [p1]) :: L)) _ := h.sel 5 [0, 4, 1] (by kernel_rfl) (by kernel_rfl)
  replace H := ej1 H; subst H
  exact ⟨ca1, cc2, ca8, cc9, rfl, h⟩
 ·
  replace H := ifF c6 H
  refine cond_ff hr (bF c6) ?_
  refine wp_skip ?_
  refine end_norm0 rfl hr ?_
  replace h : Fit z (sepL (ob62 B0 p0 ca1 cc2 ca3 cc4 :: ro2 ca1 cc2 p0.Held :: ro90 ca3 cc4 p0.Book :: L)) _ := h.sel 4 [1, 2, 3] (by kernel_rfl) (by kernel_rfl)
  replace H := ej1 H; subst H
  exact ⟨ca1, cc2, ca3, cc4, rfl, h⟩

def plunderref2_Arena_reserve_l1 (K : Nat) (p1 : Int) : Nat → (List Int) → Int → Option ((List Int))
  | 0, _, _ => none
  | k1 + 1, l19, g20 => (if g20 < p1 then if (l19.length + 1) * 8 ≤ 140737488355328 then (plunderref2_Arena_reserve_l1 K p1 k1 (l19 ++ [0]) (wi (g20 + 1))) else none else some l19)
/-- (*plunder/plunderref2.Arena).reserve -/
def plunderref2_Arena_reserve (K : Nat) (p0 : T_plunderref2_Arena) (p1 : Int) : Option (T_api_Effect × T_plunderref2_Arena) :=
  (if p1 < 1 then ob1 (plunderref2_refused 21) (fun r7 => some (r7, p0)) else (if p1 > (wi (p0.Most - ((p0.Held.length : Nat) : Int))) then ob1 (plunderref2_refused 22) (fun r10 => some (r10, p0)) else ob1 ((plunderref2_Arena_reserve_l1 K p1 K p0.Held 0)) (fun l14 => ob1 (plunderref2_Arena_note ({ p0 with Held := l14 }) (⟨p0.Actor, 4, ((p0.Held.length : Nat) : Int), p1, 0, true⟩ : T_api_Access)) (fun S26 => some ((⟨((p0.Held.length : Nat) : Int), true, 0⟩ : T_api_Effect), S26)))))

set_option maxRecDepth 100000 in
set_option maxHeartbeats 4000000 in
theorem plunderref2_Arena_reserve_ok {z w : World} {L : List HProp} {K : Nat} {p0 : T_plunderref2_Arena} {p1 : Int} {B0 : Nat} {ca1 : Option Addr} {cc2 : Nat} {ca3 : Option Addr} {cc4 : Nat} {r0 : T_api_Effect} {q0 : T_plunderref2_Arena} (H : plunderref2_Arena_reserve K p0 p1 = some (r0, q0)) (h : Fit z (sepL (ob62 B0 p0 ca1 cc2 ca3 cc4 :: ro2 ca1 cc2 p0.Held :: ro90 ca3 cc4 p0.Book :: L)) w)  :
    Calls Try.prog 79 #[pA B0 0, vI p1] w fun e w => ∃ caq0_1 : Option Addr, ∃ ccq0_2 : Nat, ∃ caq0_3 : Option Addr, ∃ ccq0_4 : Nat, e = .returned (ag_T_api_Effect r0) ∧ Fit z (sepL (ob62 B0 q0 caq0_1 ccq0_2 caq0_3 ccq0_4 :: ro2 caq0_1 ccq0_2 q0.Held :: ro90 caq0_3 ccq0_4 q0.Book :: L)) w := by
 unfold plunderref2_Arena_reserve at H
 refine enter Try.func79 rfl 53 rfl rfl [(0, pA B0 0), (1, vI p1)] ⟨rfl, rfl, trivial⟩ ?_
 intro j a hr
 refine sr ?_
 refine onew (wn rfl) hr h nb (#[vI 0, vB false, vI 0]) 39 fun b5 w a h hr => ?_
 refine ln ?_
 refine wp_seq ?_
 refine sr ?_
 refine oo [7, 8] [vI p1, vB (decide (p1 < 1))] hr fun a hr => ?_
 refine ln ?_
 by_cases c6 : p1 < 1
 ·
  replace H := ifT c6 H
  refine cond_tt hr (decide_eq_true c6) ?_
  refine sr ?_
  obtain ⟨r7, e8, H⟩ := bd1 H
  have hc := plunderref2_refused_ok (H := e8) (h := h)
  refine cl (wn rfl) hr hc ?_; clear hc h
  rintro _ w ⟨rfl, h⟩; refine ⟨_, rfl, fun a hr => ?_⟩
  refine stos (wn rfl) hr h 0 (cl_T_api_Effect r7) (ca_T_api_Effect r7) fun w h => ?_
  refine wpList_nil ?_
  replace h : Fit z (sepL (ob39 b5 r7 :: ob62 B0 p0 ca1 cc2 ca3 cc4 :: ro2 ca1 cc2 p0.Held :: ro90 ca3 cc4 p0.Book :: L)) _ := h
  refine then_normal ?_
  refine wp_ret ?_
  refine then_ret ?_
  refine end_retC (cs := cl_T_api_Effect r7) rfl hr (by kernel_rfl) (by kernel_rfl) (by kernel_rfl) (h.held 0 rfl) ?_
  replace h : Fit z (sepL (ob62 B0 p0 ca1 cc2 ca3 cc4 :: ro2 ca1 cc2 p0.Held :: ro90 ca3 cc4 p0.Book :: L)) _ := h.sel 4 [1, 2, 3] (by kernel_rfl) (by kernel_rfl)
  obtain ⟨rfl, rfl⟩ := ej2 H
  exact ⟨ca1, cc2, ca3, cc4, rfl, h⟩
 ·
  replace H := ifF c6 H
  refine cond_ff hr (decide_eq_false c6) ?_
  refine wp_skip ?_
  refine then_normal ?_
  refine wp_seq ?_
  refine wp_seq ?_
  refine reg_E (fun w => heldC w B0 0 ([vI p0.Most]) ∧ heldC w B0 1 ([.slice ca1 p0.Held.length cc2]) ∧ True) [2, 3, 6, 7, 9] h (by kernel_rfl) ?_; intro w h
  change wpAnyE _ _ _ _ _ _ 12 (Array.replicate 12 false) a w
  have hgo : ∀ w w', CellsGo w w' → (heldC w B0 0 ([vI p0.Most]) ∧ heldC w B0 1 ([.slice ca1 p0.Held.length cc2]) ∧ True) → heldC w' B0 0 ([vI p0.Most]) ∧ heldC w' B0 1 ([.slice ca1 p0.Held.length cc2]) ∧ True := fun w w' g hD => ⟨heldC_go _ _ _ _ _ g hD.1, heldC_go _ _ _ _ _ g hD.2.1, trivial⟩
  refine evs 11 0 rfl (wn rfl) hr (vI p1) fun a hr => ?_
  refine evs 10 1 rfl (wn rfl) hr (pA B0 0) fun a hr => ?_
  refine evDs hgo ⟨⟨(h.pick 1).cell 0 rfl, trivial⟩, ⟨(h.pick 1).cell 1 rfl, trivial⟩, trivial⟩ 9 2 rfl (wn rfl) hr (pA B0 0) fun a hr => ?_
  refine evDs hgo ⟨⟨(h.pick 1).cell 0 rfl, trivial⟩, ⟨(h.pick 1).cell 1 rfl, trivial⟩, trivial⟩ 8 3 rfl (wn rfl) hr (pA B0 0) fun a hr => ?_
  refine evs 7 5 rfl (wn rfl) hr (pA B0 0) fun a hr => ?_
  refine evDs hgo ⟨⟨(h.pick 1).cell 0 rfl, trivial⟩, ⟨(h.pick 1).cell 1 rfl, trivial⟩, trivial⟩ 6 6 rfl (wn rfl) hr (pA B0 0) fun a hr => ?_
  refine evDs hgo ⟨⟨(h.pick 1).cell 0 rfl, trivial⟩, ⟨(h.pick 1).cell 1 rfl, trivial⟩, trivial⟩ 5 7 rfl (wn rfl) hr (pA B0 1) fun a hr => ?_
  refine el [2, 3, 6, 7, 9] (b := B0) (off := 0) (cs := [vI p0.Most]) (fun _ hk => ⟨hk, fun w hD => hD.1⟩) 4 4 rfl (by kernel_rfl) (wn rfl) hr (vI p0.Most) ⟨(h.pick 1).cell 0 rfl, trivial⟩ (fun w hc => rl rfl (by kernel_rfl) (by kernel_rfl) hc.1) fun a hr => ?_
  refine el [2, 3, 6, 7, 9] (b := B0) (off := 1) (cs := [.slice ca1 p0.Held.length cc2]) (fun _ hk => ⟨hk, fun w hD => hD.2.1⟩) 3 8 rfl (by kernel_rfl) (wn rfl) hr (.slice ca1 p0.Held.length cc2) ⟨(h.pick 1).cell 1 rfl, trivial⟩ (fun w hc => rl rfl (by kernel_rfl) (by kernel_rfl) hc.1) fun a hr => ?_
  refine evDs hgo ⟨⟨(h.pick 1).cell 0 rfl, trivial⟩, ⟨(h.pick 1).cell 1 rfl, trivial⟩, trivial⟩ 2 9 rfl (wn rfl) hr (vI ((p0.Held.length : Nat) : Int)) fun a hr => ?_
  refine evs 1 10 rfl (wn rfl) hr (vI (wi (p0.Most - ((p0.Held.length : Nat) : Int)))) fun a hr => ?_
  refine evs 0 11 rfl (wn rfl) hr (vB (decide (p1 > (wi (p0.Most - ((p0.Held.length : Nat) : Int)))))) fun a hr => ?_
  refine e_end (by kernel_rfl) ?_
  refine then_normal ?_
  by_cases c9 : p1 > (wi (p0.Most - ((p0.Held.length : Nat) : Int)))
  ·
   replace H := ifT c9 H
   refine cond_tt hr (decide_eq_true c9) ?_
   refine sr ?_
   obtain ⟨r10, e11, H⟩ := bd1 H
   have hc := plunderref2_refused_ok (H := e11) (h := h)
   refine cl (wn rfl) hr hc ?_; clear hc h
   rintro _ w ⟨rfl, h⟩; refine ⟨_, rfl, fun a hr => ?_⟩
   refine stos (wn rfl) hr h 0 (cl_T_api_Effect r10) (ca_T_api_Effect r10) fun w h => ?_
   refine wpList_nil ?_
   replace h : Fit z (sepL (ob39 b5 r10 :: ob62 B0 p0 ca1 cc2 ca3 cc4 :: ro2 ca1 cc2 p0.Held :: ro90 ca3 cc4 p0.Book :: L)) _ := h
   refine then_normal ?_
   refine wp_ret ?_
   refine then_ret ?_
   refine end_retC (cs := cl_T_api_Effect r10) rfl hr (by kernel_rfl) (by kernel_rfl) (by kernel_rfl) (h.held 0 rfl) ?_
   replace h : Fit z (sepL (ob62 B0 p0 ca1 cc2 ca3 cc4 :: ro2 ca1 cc2 p0.Held :: ro90 ca3 cc4 p0.Book :: L)) _ := h.sel 4 [1, 2, 3] (by kernel_rfl) (by kernel_rfl)
   obtain ⟨rfl, rfl⟩ := ej2 H
   exact ⟨ca1, cc2, ca3, cc4, rfl, h⟩
  ·
   replace H := ifF c9 H
   refine cond_ff hr (decide_eq_false c9) ?_
   refine wp_skip ?_
   refine then_normal ?_
   refine sr ?_
   refine oo [23, 24, 25] [pA B0 0, pA B0 0, pA B0 1] hr fun a hr => ?_
   refine ld (wn rfl) hr (.slice ca1 p0.Held.length cc2) ((h.pick 1).cell 1 rfl) fun a hr => ?_
   refine oo [27, 5] [vI ((p0.Held.length : Nat) : Int), vI ((p0.Held.length : Nat) : Int)] hr fun a hr => ?_
   refine ln ?_
   obtain ⟨o16, H, hK15⟩ := kd1 H
   refine cut_rule (β := Unit) (fun _ a w => ∃ ca12 : Option Addr, ∃ cc13 : Nat, ∃ l14 : List Int, l14 = o16 ∧ ∃ j, Rep 53 (lk [(0, pA B0 0), (1, vI p1), (4, pA b5 0), (5, vI ((p0.Held.length : Nat) : Int))] j) a ∧ Fit z (sepL (pts B0 (.cells #[vI p0.Most, .slice ca12 l14.length cc13, vB p0.On, vI p0.Actor, .slice ca3 p0.Book.length cc4] 62) :: ro2 ca12 cc13 l14 :: ro90 ca3 cc4 p0.Book :: pts b5 (.cells #[vI 0, vB false, vI 0] 39) :: L)) w) ?_ ?_
   ·
    refine sr ?_
    refine o1 hr (vI 0) fun a hr => ?_
    refine ln ?_
    refine wp_block ?_
    replace hr := hr.fold2 [(0, pA B0 0), (1, vI p1), (4, pA b5 0), (5, vI ((p0.Held.length : Nat) : Int)), (6, vI 0)] (by kernel_rfl); obtain ⟨j, hr⟩ := hr
    replace h : Fit z (sepL (ob62 B0 p0 ca1 cc2 ca3 cc4 :: ro2 ca1 cc2 p0.Held :: ro90 ca3 cc4 p0.Book :: pts b5 (.cells #[vI 0, vB false, vI 0] 39) :: L)) _ := h.sel 4 [1, 2, 3, 0] (by kernel_rfl) (by kernel_rfl)
    refine loop_rule (β := Nat) id (fun m a w => ∃ ca17 : Option Addr, ∃ cc18 : Nat, ∃ l19 : List Int, ∃ g20 : Int, (plunderref2_Arena_reserve_l1 K p1 m l19 g20) = some o16 ∧ ∃ j, Rep 53 (lk [(0, pA B0 0), (1, vI p1), (4, pA b5 0), (5, vI ((p0.Held.length : Nat) : Int)), (6, vI g20)] j) a ∧ Fit z (sepL (pts B0 (.cells #[vI p0.Most, .slice ca17 l19.length cc18, vB p0.On, vI p0.Actor, .slice ca3 p0.Book.length cc4] 62) :: ro2 ca17 cc18 l19 :: ro90 ca3 cc4 p0.Book :: pts b5 (.cells #[vI 0, vB false, vI 0] 39) :: L)) w) K ⟨ca1, cc2, p0.Held, 0, H, j, hr, h⟩ ?_
    clear h hr a H; rintro k1 a w ⟨ca17, cc18, l19, g20, H, j, hr, h⟩
    cases k1 with
    | zero => exact absurd H (by simp [plunderref2_Arena_reserve_l1])
    | succ k1 =>
     rw [plunderref2_Arena_reserve_l1] at H
     refine wp_seq ?_
     refine sr ?_
     refine oo [28, 29, 30] [vI g20, vI p1, vB (decide (g20 < p1))] hr fun a hr => ?_
     refine ln ?_
     by_cases c21 : g20 < p1
     ·
      replace H := ifT c21 H
      refine cond_tt hr (decide_eq_true c21) ?_
      refine wp_skip ?_
      refine then_normal ?_
      refine wp_seq ?_
      refine wp_block ?_
      refine wp_region_lit ?_
      refine oo [33, 34, 35, 36] [pA B0 0, pA B0 0, pA B0 0, pA B0 1] hr fun a hr => ?_
      refine ld (wn rfl) hr (.slice ca17 l19.length cc18) (h.cell 1 rfl) fun a hr => ?_
      refine onew (wn rfl) hr h (fun b => .slice (some ⟨b, 0, none⟩) 1 1) (#[vI 0]) 2 fun b22 w a h hr => ?_
      replace h : Fit z (sepL (ro2 ca17 cc18 l19 :: pts b22 (.cells #[vI 0] 2) :: pts B0 (.cells #[vI p0.Most, .slice ca17 l19.length cc18, vB p0.On, vI p0.Actor, .slice ca3 p0.Book.length cc4] 62) :: ro90 ca3 cc4 p0.Book :: pts b5 (.cells #[vI 0, vB false, vI 0] 39) :: L)) _ := h.sel 5 [2, 0, 1, 3, 4] (by kernel_rfl) (by kernel_rfl)
      obtain ⟨c25, H⟩ := gd H
      refine op_append (n0 := l19.length) (c := 1) (bytes := 8) (wn rfl) rfl rfl hr rfl (by kernel_rfl) (by kernel_rfl) encZ_i64_ok (E := 2) (xs := l19) (by kernel_rfl) (by kernel_rfl) h (news := [0]) (m := 1) rfl ((h.pick 1).news rfl) c25 rfl fun ca23 cc24 w a h hr => ?_
      refine oo [40, 41] [pA B0 0, pA B0 1] hr fun a hr => ?_
      replace h : Fit z (sepL (pts B0 (.cells #[vI p0.Most, .slice ca17 l19.length cc18, vB p0.On, vI p0.Actor, .slice ca3 p0.Book.length cc4] 62) :: ro2 ca23 cc24 (l19 ++ [0]) :: pts b22 (.cells #[vI 0] 2) :: ro90 ca3 cc4 p0.Book :: pts b5 (.cells #[vI 0, vB false, vI 0] 39) :: L)) _ := h.sel 5 [2, 0, 1, 3, 4] (by kernel_rfl) (by kernel_rfl)
      refine sto (wn rfl) hr h 1 (.slice ca23 (l19 ++ [0]).length cc24) fun w h => ?_
      refine wpList_nil ?_
      replace h : Fit z (sepL (pts B0 (.cells #[vI p0.Most, .slice ca23 (l19 ++ [0]).length cc24, vB p0.On, vI p0.Actor, .slice ca3 p0.Book.length cc4] 62) :: ro2 ca23 cc24 (l19 ++ [0]) :: pts b22 (.cells #[vI 0] 2) :: ro90 ca3 cc4 p0.Book :: pts b5 (.cells #[vI 0, vB false, vI 0] 39) :: L)) _ := h
      refine blk_normal ?_
      refine then_normal ?_
      refine wp_region_lit ?_
      refine oo [31, 32, 6] [vI g20, vI (wi (g20 + 1)), vI (wi (g20 + 1))] hr fun a hr => ?_
      refine ln ?_
      replace hr := hr.fold2 [(0, pA B0 0), (1, vI p1), (4, pA b5 0), (5, vI ((p0.Held.length : Nat) : Int)), (6, vI (wi (g20 + 1)))] (by kernel_rfl); obtain ⟨j, hr⟩ := hr
      replace h : Fit z (sepL (pts B0 (.cells #[vI p0.Most, .slice ca23 (l19 ++ [0]).length cc24, vB p0.On, vI p0.Actor, .slice ca3 p0.Book.length cc4] 62) :: ro2 ca23 cc24 (l19 ++ [0]) :: ro90 ca3 cc4 p0.Book :: pts b5 (.cells #[vI 0, vB false, vI 0] 39) :: L)) _ := h.sel 5 [0, 1, 3, 4] (by kernel_rfl) (by kernel_rfl)
      exact ⟨_, ⟨ca23, cc24, (l19 ++ [0]), (wi (g20 + 1)), H, j, hr, h⟩, Nat.lt_succ_self _⟩
     ·
      replace H := ifF c21 H
      refine cond_ff hr (decide_eq_false c21) ?_
      refine wp_exit ?_
      refine then_exit ?_
      refine then_exit ?_
      refine blk_here ?_
      refine then_normal ?_
      replace hr := hr.fold2 [(0, pA B0 0), (1, vI p1), (4, pA b5 0), (5, vI ((p0.Held.length : Nat) : Int))] (by kernel_rfl); obtain ⟨j, hr⟩ := hr
      exact ⟨(), ca17, cc18, l19, sinj H, j, hr, h⟩
   clear h hr a; rintro _ a w ⟨ca12, cc13, l14, rfl, j, hr, h⟩
   replace H := kk1 hK15
   refine sr ?_
   refine oo [42, 43, 44, 45] [pA B0 0, pA B0 0, pA B0 0, pA B0 3] hr fun a hr => ?_
   refine ld (wn rfl) hr (vI p0.Actor) (h.cell 3 rfl) fun a hr => ?_
   obtain ⟨S26, e27, H⟩ := bd1 H
   refine oo [47, 48, 49] [vI ((p0.Held.length : Nat) : Int), vI p1, .agg #[vI p0.Actor, vI 4, vI ((p0.Held.length : Nat) : Int), vI p1, vI 0, vB true]] hr fun a hr => ?_
   have hc := plunderref2_Arena_note_ok (H := e27) (h := h)
   refine cl (wn rfl) hr hc ?_; clear hc h
   rintro _ w ⟨caq28, ccq29, caq30, ccq31, rfl, h⟩; refine ⟨_, rfl, fun a hr => ?_⟩
   refine ln ?_
   refine sr ?_
   refine oo [51, 52] [vI ((p0.Held.length : Nat) : Int), .agg #[vI ((p0.Held.length : Nat) : Int), vB true, vI 0]] hr fun a hr => ?_
   replace h : Fit z (sepL (pts b5 (.cells #[vI 0, vB false, vI 0] 39) :: ob62 B0 S26 caq28 ccq29 caq30 ccq31 :: ro2 caq28 ccq29 S26.Held :: ro90 caq30 ccq31 S26.Book :: L)) _ := h.sel 4 [3, 0, 1, 2] (by kernel_rfl) (by kernel_rfl)
   refine stos (wn rfl) hr h 0 ([vI ((p0.Held.length : Nat) : Int), vB true, vI 0]) (#[vI ((p0.Held.length : Nat) : Int), vB true, vI 0]) fun w h => ?_
   refine wpList_nil ?_
   replace h : Fit z (sepL (pts b5 (.cells #[vI ((p0.Held.length : Nat) : Int), vB true, vI 0] 39) :: ob62 B0 S26 caq28 ccq29 caq30 ccq31 :: ro2 caq28 ccq29 S26.Held :: ro90 caq30 ccq31 S26.Book :: L)) _ := h
   refine then_normal ?_
   refine wp_ret ?_
   refine end_retC (cs := [vI ((p0.Held.length : Nat) : Int), vB true, vI 0]) rfl hr (by kernel_rfl) (by kernel_rfl) (by kernel_rfl) (h.held 0 rfl) ?_
   replace h : Fit z (sepL (ob62 B0 S26 caq28 ccq29 caq30 ccq31 :: ro2 caq28 ccq29 S26.Held :: ro90 caq30 ccq31 S26.Book :: L)) _ := h.sel 4 [1, 2, 3] (by kernel_rfl) (by kernel_rfl)
   obtain ⟨rfl, rfl⟩ := ej2 H
   exact ⟨caq28, ccq29, caq30, ccq31, rfl, h⟩

/-- (*plunder/plunderref2.Arena).Do -/
def plunderref2_Arena_Do (K : Nat) (p0 : T_plunderref2_Arena) (p1 : T_api_Act) : Option (T_api_Effect × T_plunderref2_Arena) :=
  jn0 ((if p1.Kind < 0 then ob1 (plunderref2_refused 23) (fun r10 => some (.inr (r10, p0))) else (if p1.Kind > 4 then ob1 (plunderref2_refused 23) (fun r13 => some (.inr (r13, p0))) else some (.inl ())))) ((if p1.Kind = 4 then ob2 (plunderref2_Arena_reserve K p0 p1.A) (fun r16 S17 => some (r16, S17)) else jn0 ((if p1.Addr < 0 then ob1 (plunderref2_refused 20) (fun r27 => some (.inr (r27, p0))) else (if p1.Addr ≥ ((p0.Held.length : Nat) : Int) then ob1 (plunderref2_refused 20) (fun r30 => some (.inr (r30, p0))) else some (.inl ())))) (if inr_ p1.Addr p0.Held.length then (if p1.Kind = 0 then ob1 (plunderref2_Arena_note p0 (⟨p0.Actor, p1.Kind, p1.Addr, (at_ p0.Held p1.Addr.toNat), 0, true⟩ : T_api_Access)) (fun S36 => some ((⟨(at_ p0.Held p1.Addr.toNat), true, 0⟩ : T_api_Effect), S36)) else (if p1.Kind = 1 then ob1 (plunderref2_Arena_note ({ p0 with Held := p0.Held.set p1.Addr.toNat p1.A }) (⟨p0.Actor, p1.Kind, p1.Addr, p1.A, 0, true⟩ : T_api_Access)) (fun S44 => some ((⟨0, true, 0⟩ : T_api_Effect), S44)) else (if p1.Kind = 2 then (if (at_ p0.Held p1.Addr.toNat) = p1.A then ob1 (plunderref2_Arena_note ({ p0 with Held := p0.Held.set p1.Addr.toNat p1.B }) (⟨p0.Actor, p1.Kind, p1.Addr, p1.A, p1.B, (at_ p0.Held p1.Addr.toNat) == p1.A⟩ : T_api_Access)) (fun S53 => some ((⟨0, (at_ p0.Held p1.Addr.toNat) == p1.A, 0⟩ : T_api_Effect), S53)) else ob1 (plunderref2_Arena_note p0 (⟨p0.Actor, p1.Kind, p1.Addr, p1.A, p1.B, (at_ p0.Held p1.Addr.toNat) == p1.A⟩ : T_api_Access)) (fun S59 => some ((⟨0, (at_ p0.Held p1.Addr.toNat) == p1.A, 0⟩ : T_api_Effect), S59))) else ob1 (plunderref2_Arena_note ({ p0 with Held := p0.Held.set p1.Addr.toNat (wi ((at_ p0.Held p1.Addr.toNat) + p1.A)) }) (⟨p0.Actor, p1.Kind, p1.Addr, p1.A, wi ((at_ p0.Held p1.Addr.toNat) + p1.A), true⟩ : T_api_Access)) (fun S66 => some ((⟨wi ((at_ p0.Held p1.Addr.toNat) + p1.A), true, 0⟩ : T_api_Effect), S66))))) else none)))

set_option maxRecDepth 100000 in
set_option maxHeartbeats 4000000 in
theorem plunderref2_Arena_Do_ok {z w : World} {L : List HProp} {K : Nat} {p0 : T_plunderref2_Arena} {p1 : T_api_Act} {B0 : Nat} {ca1 : Option Addr} {cc2 : Nat} {ca3 : Option Addr} {cc4 : Nat} {r0 : T_api_Effect} {q0 : T_plunderref2_Arena} (H : plunderref2_Arena_Do K p0 p1 = some (r0, q0)) (h : Fit z (sepL (ob62 B0 p0 ca1 cc2 ca3 cc4 :: ro2 ca1 cc2 p0.Held :: ro90 ca3 cc4 p0.Book :: L)) w)  :
    Calls Try.prog 30 #[pA B0 0, ag_T_api_Act p1] w fun e w => ∃ caq0_1 : Option Addr, ∃ ccq0_2 : Nat, ∃ caq0_3 : Option Addr, ∃ ccq0_4 : Nat, e = .returned (ag_T_api_Effect r0) ∧ Fit z (sepL (ob62 B0 q0 caq0_1 ccq0_2 caq0_3 ccq0_4 :: ro2 caq0_1 ccq0_2 q0.Held :: ro90 caq0_3 ccq0_4 q0.Book :: L)) w := by
 unfold plunderref2_Arena_Do at H
 refine enter Try.func30 rfl 139 rfl rfl [(0, pA B0 0), (1, ag_T_api_Act p1)] ⟨rfl, rfl, trivial⟩ ?_
 intro j a hr
 refine sr ?_
 refine onew (wn rfl) hr h nb (ca_T_api_Act p1) 57 fun b5 w a h hr => ?_
 refine onew (wn rfl) hr h nb (#[vI 0, vB false, vI 0]) 39 fun b6 w a h hr => ?_
 refine ln ?_
 obtain ⟨o8, H, hK7⟩ := jd0 H
 refine cut_rule (β := Unit) (fun _ a w => .inl () = o8 ∧ ∃ j, Rep 139 (lk [(0, pA B0 0), (3, pA b5 0), (4, pA b6 0)] j) a ∧ Fit z (sepL (ob62 B0 p0 ca1 cc2 ca3 cc4 :: ro2 ca1 cc2 p0.Held :: ro90 ca3 cc4 p0.Book :: ob57 b5 p1 :: pts b6 (.cells #[vI 0, vB false, vI 0] 39) :: L)) w) ?_ ?_
 ·
  refine sr ?_
  refine o1 hr (pA b5 1) fun a hr => ?_
  refine ld (wn rfl) hr (vI p1.Kind) ((h.pick 1).cell 1 rfl) fun a hr => ?_
  refine oo [11, 12] [vB (decide (p1.Kind < 0)), vB (decide (p1.Kind < 0))] hr fun a hr => ?_
  by_cases c9 : p1.Kind < 0
  ·
   replace H := ifT c9 H
   refine offg (wgt hr (decide_eq_true c9)) hr fun a hr => ?_
   refine offg (wgt hr (decide_eq_true c9)) hr fun a hr => ?_
   refine offg (wgt hr (decide_eq_true c9)) hr fun a hr => ?_
   refine opv (wn rfl) hr (vB true) (rp_t (b := (decide (p1.Kind < 0))) rfl (by kernel_rfl) (decide_eq_true c9) (by kernel_rfl)) fun a hr => ?_
   refine ln ?_
   refine cond_tt hr (b := true) rfl ?_
   refine sr ?_
   obtain ⟨r10, e11, H⟩ := bd1 H
   have hc := plunderref2_refused_ok (H := e11) (h := h)
   refine cl (wn rfl) hr hc ?_; clear hc h
   rintro _ w ⟨rfl, h⟩; refine ⟨_, rfl, fun a hr => ?_⟩
   refine stos (wn rfl) hr h 0 (cl_T_api_Effect r10) (ca_T_api_Effect r10) fun w h => ?_
   refine wpList_nil ?_
   replace h : Fit z (sepL (ob39 b6 r10 :: ob57 b5 p1 :: ob62 B0 p0 ca1 cc2 ca3 cc4 :: ro2 ca1 cc2 p0.Held :: ro90 ca3 cc4 p0.Book :: L)) _ := h
   refine then_normal ?_
   refine wp_ret ?_
   refine then_ret ?_
   refine end_retC (cs := cl_T_api_Effect r10) rfl hr (by kernel_rfl) (by kernel_rfl) (by kernel_rfl) (h.held 0 rfl) ?_
   replace H := jx0 H hK7
   replace h : Fit z (sepL (ob62 B0 p0 ca1 cc2 ca3 cc4 :: ro2 ca1 cc2 p0.Held :: ro90 ca3 cc4 p0.Book :: L)) _ := h.sel 5 [2, 3, 4] (by kernel_rfl) (by kernel_rfl)
   obtain ⟨rfl, rfl⟩ := ej2 H
   exact ⟨ca1, cc2, ca3, cc4, rfl, h⟩
  ·
   replace H := ifF c9 H
   refine opv (wgt hr (decide_eq_false c9)) hr (pA b5 1) (by kernel_rfl) fun a hr => ?_
   refine ld (wgt hr (decide_eq_false c9)) hr (vI p1.Kind) ((h.pick 1).cell 1 rfl) fun a hr => ?_
   refine opv (wgt hr (decide_eq_false c9)) hr (vB (decide (p1.Kind > 4))) (by kernel_rfl) fun a hr => ?_
   refine opv (wn rfl) hr (vB (decide (p1.Kind > 4))) (rp_f (b := (decide (p1.Kind < 0))) rfl (by kernel_rfl) (decide_eq_false c9) (by kernel_rfl)) fun a hr => ?_
   refine ln ?_
   by_cases c12 : p1.Kind > 4
   ·
    replace H := ifT c12 H
    refine cond_tt hr (decide_eq_true c12) ?_
    refine sr ?_
    obtain ⟨r13, e14, H⟩ := bd1 H
    have hc := plunderref2_refused_ok (H := e14) (h := h)
    refine cl (wn rfl) hr hc ?_; clear hc h
    rintro _ w ⟨rfl, h⟩; refine ⟨_, rfl, fun a hr => ?_⟩
    refine stos (wn rfl) hr h 0 (cl_T_api_Effect r13) (ca_T_api_Effect r13) fun w h => ?_
    refine wpList_nil ?_
    replace h : Fit z (sepL (ob39 b6 r13 :: ob57 b5 p1 :: ob62 B0 p0 ca1 cc2 ca3 cc4 :: ro2 ca1 cc2 p0.Held :: ro90 ca3 cc4 p0.Book :: L)) _ := h
    refine then_normal ?_
    refine wp_ret ?_
    refine then_ret ?_
    refine end_retC (cs := cl_T_api_Effect r13) rfl hr (by kernel_rfl) (by kernel_rfl) (by kernel_rfl) (h.held 0 rfl) ?_
    replace H := jx0 H hK7
    replace h : Fit z (sepL (ob62 B0 p0 ca1 cc2 ca3 cc4 :: ro2 ca1 cc2 p0.Held :: ro90 ca3 cc4 p0.Book :: L)) _ := h.sel 5 [2, 3, 4] (by kernel_rfl) (by kernel_rfl)
    obtain ⟨rfl, rfl⟩ := ej2 H
    exact ⟨ca1, cc2, ca3, cc4, rfl, h⟩
   ·
    replace H := ifF c12 H
    refine cond_ff hr (decide_eq_false c12) ?_
    refine wp_skip ?_
    refine then_normal ?_
    replace hr := hr.fold2 [(0, pA B0 0), (3, pA b5 0), (4, pA b6 0)] (by kernel_rfl); obtain ⟨j, hr⟩ := hr
    replace h : Fit z (sepL (ob62 B0 p0 ca1 cc2 ca3 cc4 :: ro2 ca1 cc2 p0.Held :: ro90 ca3 cc4 p0.Book :: ob57 b5 p1 :: pts b6 (.cells #[vI 0, vB false, vI 0] 39) :: L)) _ := h.sel 5 [2, 3, 4, 1, 0] (by kernel_rfl) (by kernel_rfl)
    exact ⟨(), sinj H, j, hr, h⟩
 clear h hr a; rintro _ a w ⟨rfl, j, hr, h⟩
 replace H := jk0 hK7
 refine wp_seq ?_
 refine sr ?_
 refine o1 hr (pA b5 1) fun a hr => ?_
 refine ld (wn rfl) hr (vI p1.Kind) ((h.pick 3).cell 1 rfl) fun a hr => ?_
 refine o1 hr (vB (p1.Kind == 4)) fun a hr => ?_
 refine ln ?_
 by_cases c15 : p1.Kind = 4
 ·
  replace H := ifT c15 H
  refine cond_tt hr (beq_iff_eq.mpr c15) ?_
  refine sr ?_
  refine oo [21, 22] [pA B0 0, pA b5 3] hr fun a hr => ?_
  refine ld (wn rfl) hr (vI p1.A) ((h.pick 3).cell 3 rfl) fun a hr => ?_
  obtain ⟨r16, S17, e18, H⟩ := bd2 H
  have hc := plunderref2_Arena_reserve_ok (H := e18) (h := h)
  refine cl (wn rfl) hr hc ?_; clear hc h
  rintro _ w ⟨caq19, ccq20, caq21, ccq22, rfl, h⟩; refine ⟨_, rfl, fun a hr => ?_⟩
  refine onew (wn rfl) hr h nb (#[vI 0, vB false, vI 0]) 39 fun b23 w a h hr => ?_
  refine stos (wn rfl) hr h 0 (cl_T_api_Effect r16) (ca_T_api_Effect r16) fun w h => ?_
  refine wpList_nil ?_
  replace h : Fit z (sepL (ob39 b23 r16 :: ob62 B0 S17 caq19 ccq20 caq21 ccq22 :: ro2 caq19 ccq20 S17.Held :: ro90 caq21 ccq22 S17.Book :: ob57 b5 p1 :: pts b6 (.cells #[vI 0, vB false, vI 0] 39) :: L)) _ := h
  refine then_normal ?_
  refine sr ?_
  refine ldm (wn rfl) hr (ag_T_api_Effect r16) (cs := cl_T_api_Effect r16) (h.held 0 rfl) fun a hr => ?_
  replace h : Fit z (sepL (pts b6 (.cells #[vI 0, vB false, vI 0] 39) :: ob39 b23 r16 :: ob62 B0 S17 caq19 ccq20 caq21 ccq22 :: ro2 caq19 ccq20 S17.Held :: ro90 caq21 ccq22 S17.Book :: ob57 b5 p1 :: L)) _ := h.sel 6 [5, 0, 1, 2, 3, 4] (by kernel_rfl) (by kernel_rfl)
  refine stos (wn rfl) hr h 0 (cl_T_api_Effect r16) (ca_T_api_Effect r16) fun w h => ?_
  refine wpList_nil ?_
  replace h : Fit z (sepL (ob39 b6 r16 :: ob39 b23 r16 :: ob62 B0 S17 caq19 ccq20 caq21 ccq22 :: ro2 caq19 ccq20 S17.Held :: ro90 caq21 ccq22 S17.Book :: ob57 b5 p1 :: L)) _ := h
  refine then_normal ?_
  refine wp_ret ?_
  refine then_ret ?_
  refine end_retC (cs := cl_T_api_Effect r16) rfl hr (by kernel_rfl) (by kernel_rfl) (by kernel_rfl) (h.held 0 rfl) ?_
  replace h : Fit z (sepL (ob62 B0 S17 caq19 ccq20 caq21 ccq22 :: ro2 caq19 ccq20 S17.Held :: ro90 caq21 ccq22 S17.Book :: L)) _ := h.sel 6 [2, 3, 4] (by kernel_rfl) (by kernel_rfl)
  obtain ⟨rfl, rfl⟩ := ej2 H
  exact ⟨caq19, ccq20, caq21, ccq22, rfl, h⟩
 ·
  replace H := ifF c15 H
  refine cond_ff hr (beq_eq_false_iff_ne.mpr c15) ?_
  refine wp_skip ?_
  refine then_normal ?_
  obtain ⟨o25, H, hK24⟩ := jd0 H
  refine cut_rule (β := Unit) (fun _ a w => .inl () = o25 ∧ ∃ j, Rep 139 (lk [(0, pA B0 0), (3, pA b5 0), (4, pA b6 0)] j) a ∧ Fit z (sepL (ob62 B0 p0 ca1 cc2 ca3 cc4 :: ro2 ca1 cc2 p0.Held :: ro90 ca3 cc4 p0.Book :: ob57 b5 p1 :: pts b6 (.cells #[vI 0, vB false, vI 0] 39) :: L)) w) ?_ ?_
  ·
   refine wp_seq ?_
   by_cases c26 : p1.Addr < 0
   ·
    replace H := ifT c26 H
    refine reg_E (fun w => heldC w b5 2 ([vI p1.Addr]) ∧ True) [0] h (by kernel_rfl) ?_; intro w h
    change wpAnyE _ _ _ _ _ _ 13 (Array.replicate 13 false) a w
    have hgo : ∀ w w', CellsGo w w' → (heldC w b5 2 ([vI p1.Addr]) ∧ True) → heldC w' b5 2 ([vI p1.Addr]) ∧ True := fun w w' g hD => ⟨heldC_go _ _ _ _ _ g hD.1, trivial⟩
    refine evDs hgo ⟨⟨(h.pick 3).cell 2 rfl, trivial⟩, trivial⟩ 12 0 rfl (wn rfl) hr (pA b5 2) fun a hr => ?_
    refine el [0] (b := b5) (off := 2) (cs := [vI p1.Addr]) (fun _ hk => ⟨hk, fun w hD => hD.1⟩) 11 1 rfl (by kernel_rfl) (wn rfl) hr (vI p1.Addr) ⟨(h.pick 3).cell 2 rfl, trivial⟩ (fun w hc => rl rfl (by kernel_rfl) (by kernel_rfl) hc.1) fun a hr => ?_
    refine evs 10 2 rfl (wn rfl) hr (vB (decide (p1.Addr < 0))) fun a hr => ?_
    refine evs 9 3 rfl (wn rfl) hr (vB (decide (p1.Addr < 0))) fun a hr => ?_
    refine eos 8 4 rfl (wgt hr (decide_eq_true c26)) hr fun a hr => ?_
    refine eos 7 6 rfl (wgt hr (decide_eq_true c26)) hr fun a hr => ?_
    refine eos 6 7 rfl (wgt hr (decide_eq_true c26)) hr fun a hr => ?_
    refine eos 5 8 rfl (wgt hr (decide_eq_true c26)) hr fun a hr => ?_
    refine eos 4 5 rfl (wgt hr (decide_eq_true c26)) hr fun a hr => ?_
    refine eos 3 9 rfl (wgt hr (decide_eq_true c26)) hr fun a hr => ?_
    refine eos 2 10 rfl (wgt hr (decide_eq_true c26)) hr fun a hr => ?_
    refine eos 1 11 rfl (wgt hr (decide_eq_true c26)) hr fun a hr => ?_
    refine ev 0 12 rfl (by kernel_rfl) (wn rfl) hr (vB true) (fun w => rp_t (b := (decide (p1.Addr < 0))) rfl (by kernel_rfl) (decide_eq_true c26) (by kernel_rfl)) fun a hr => ?_
    refine e_end (by kernel_rfl) ?_
    refine then_normal ?_
    refine cond_tt hr (b := true) rfl ?_
    refine sr ?_
    obtain ⟨r27, e28, H⟩ := bd1 H
    have hc := plunderref2_refused_ok (H := e28) (h := h)
    refine cl (wn rfl) hr hc ?_; clear hc h
    rintro _ w ⟨rfl, h⟩; refine ⟨_, rfl, fun a hr => ?_⟩
    replace h : Fit z (sepL (pts b6 (.cells #[vI 0, vB false, vI 0] 39) :: ob62 B0 p0 ca1 cc2 ca3 cc4 :: ro2 ca1 cc2 p0.Held :: ro90 ca3 cc4 p0.Book :: ob57 b5 p1 :: L)) _ := h.sel 5 [4, 0, 1, 2, 3] (by kernel_rfl) (by kernel_rfl)
    refine stos (wn rfl) hr h 0 (cl_T_api_Effect r27) (ca_T_api_Effect r27) fun w h => ?_
    refine wpList_nil ?_
    replace h : Fit z (sepL (ob39 b6 r27 :: ob62 B0 p0 ca1 cc2 ca3 cc4 :: ro2 ca1 cc2 p0.Held :: ro90 ca3 cc4 p0.Book :: ob57 b5 p1 :: L)) _ := h
    refine then_normal ?_
    refine wp_ret ?_
    refine then_ret ?_
    refine end_retC (cs := cl_T_api_Effect r27) rfl hr (by kernel_rfl) (by kernel_rfl) (by kernel_rfl) (h.held 0 rfl) ?_
    replace H := jx0 H hK24
    replace h : Fit z (sepL (ob62 B0 p0 ca1 cc2 ca3 cc4 :: ro2 ca1 cc2 p0.Held :: ro90 ca3 cc4 p0.Book :: L)) _ := h.sel 5 [1, 2, 3] (by kernel_rfl) (by kernel_rfl)
    obtain ⟨rfl, rfl⟩ := ej2 H
    exact ⟨ca1, cc2, ca3, cc4, rfl, h⟩
   ·
    replace H := ifF c26 H
    refine reg_E (fun w => heldC w b5 2 ([vI p1.Addr]) ∧ heldC w b5 2 ([vI p1.Addr]) ∧ heldC w B0 1 ([.slice ca1 p0.Held.length cc2]) ∧ True) [0, 2, 4, 7, 8, 10] h (by kernel_rfl) ?_; intro w h
    change wpAnyE _ _ _ _ _ _ 13 (Array.replicate 13 false) a w
    have hgo : ∀ w w', CellsGo w w' → (heldC w b5 2 ([vI p1.Addr]) ∧ heldC w b5 2 ([vI p1.Addr]) ∧ heldC w B0 1 ([.slice ca1 p0.Held.length cc2]) ∧ True) → heldC w' b5 2 ([vI p1.Addr]) ∧ heldC w' b5 2 ([vI p1.Addr]) ∧ heldC w' B0 1 ([.slice ca1 p0.Held.length cc2]) ∧ True := fun w w' g hD => ⟨heldC_go _ _ _ _ _ g hD.1, heldC_go _ _ _ _ _ g hD.2.1, heldC_go _ _ _ _ _ g hD.2.2.1, trivial⟩
    refine evDs hgo ⟨⟨(h.pick 3).cell 2 rfl, trivial⟩, ⟨(h.pick 3).cell 2 rfl, trivial⟩, ⟨h.cell 1 rfl, trivial⟩, trivial⟩ 12 0 rfl (wn rfl) hr (pA b5 2) fun a hr => ?_
    refine el [0, 2, 4, 7, 8, 10] (b := b5) (off := 2) (cs := [vI p1.Addr]) (fun _ hk => ⟨hk, fun w hD => hD.1⟩) 11 1 rfl (by kernel_rfl) (wn rfl) hr (vI p1.Addr) ⟨(h.pick 3).cell 2 rfl, trivial⟩ (fun w hc => rl rfl (by kernel_rfl) (by kernel_rfl) hc.1) fun a hr => ?_
    refine evDs hgo ⟨⟨(h.pick 3).cell 2 rfl, trivial⟩, ⟨(h.pick 3).cell 2 rfl, trivial⟩, ⟨h.cell 1 rfl, trivial⟩, trivial⟩ 10 2 rfl (wn rfl) hr (vB (decide (p1.Addr < 0))) fun a hr => ?_
    refine evs 9 3 rfl (wn rfl) hr (vB (decide (p1.Addr < 0))) fun a hr => ?_
    refine evDs hgo ⟨⟨(h.pick 3).cell 2 rfl, trivial⟩, ⟨(h.pick 3).cell 2 rfl, trivial⟩, ⟨h.cell 1 rfl, trivial⟩, trivial⟩ 8 4 rfl (wgt hr (decide_eq_false c26)) hr (pA b5 2) fun a hr => ?_
    refine evs 7 6 rfl (wgt hr (decide_eq_false c26)) hr (pA B0 0) fun a hr => ?_
    refine evDs hgo ⟨⟨(h.pick 3).cell 2 rfl, trivial⟩, ⟨(h.pick 3).cell 2 rfl, trivial⟩, ⟨h.cell 1 rfl, trivial⟩, trivial⟩ 6 7 rfl (wgt hr (decide_eq_false c26)) hr (pA B0 0) fun a hr => ?_
    refine evDs hgo ⟨⟨(h.pick 3).cell 2 rfl, trivial⟩, ⟨(h.pick 3).cell 2 rfl, trivial⟩, ⟨h.cell 1 rfl, trivial⟩, trivial⟩ 5 8 rfl (wgt hr (decide_eq_false c26)) hr (pA B0 1) fun a hr => ?_
    refine el [0, 2, 4, 7, 8, 10] (b := b5) (off := 2) (cs := [vI p1.Addr]) (fun _ hk => ⟨hk, fun w hD => hD.2.1⟩) 4 5 rfl (by kernel_rfl) (wgt hr (decide_eq_false c26)) hr (vI p1.Addr) ⟨(h.pick 3).cell 2 rfl, trivial⟩ (fun w hc => rl rfl (by kernel_rfl) (by kernel_rfl) hc.1) fun a hr => ?_
    refine el [0, 2, 4, 7, 8, 10] (b := B0) (off := 1) (cs := [.slice ca1 p0.Held.length cc2]) (fun _ hk => ⟨hk, fun w hD => hD.2.2.1⟩) 3 9 rfl (by kernel_rfl) (wgt hr (decide_eq_false c26)) hr (.slice ca1 p0.Held.length cc2) ⟨h.cell 1 rfl, trivial⟩ (fun w hc => rl rfl (by kernel_rfl) (by kernel_rfl) hc.1) fun a hr => ?_
    refine evDs hgo ⟨⟨(h.pick 3).cell 2 rfl, trivial⟩, ⟨(h.pick 3).cell 2 rfl, trivial⟩, ⟨h.cell 1 rfl, trivial⟩, trivial⟩ 2 10 rfl (wgt hr (decide_eq_false c26)) hr (vI ((p0.Held.length : Nat) : Int)) fun a hr => ?_
    refine evs 1 11 rfl (wgt hr (decide_eq_false c26)) hr (vB (decide (p1.Addr ≥ ((p0.Held.length : Nat) : Int)))) fun a hr => ?_
    refine ev 0 12 rfl (by kernel_rfl) (wn rfl) hr (vB (decide (p1.Addr ≥ ((p0.Held.length : Nat) : Int)))) (fun w => rp_f (b := (decide (p1.Addr < 0))) rfl (by kernel_rfl) (decide_eq_false c26) (by kernel_rfl)) fun a hr => ?_
    refine e_end (by kernel_rfl) ?_
    refine then_normal ?_
    by_cases c29 : p1.Addr ≥ ((p0.Held.length : Nat) : Int)
    ·
     replace H := ifT c29 H
     refine cond_tt hr (decide_eq_true c29) ?_
     refine sr ?_
     obtain ⟨r30, e31, H⟩ := bd1 H
     have hc := plunderref2_refused_ok (H := e31) (h := h)
     refine cl (wn rfl) hr hc ?_; clear hc h
     rintro _ w ⟨rfl, h⟩; refine ⟨_, rfl, fun a hr => ?_⟩
     replace h : Fit z (sepL (pts b6 (.cells #[vI 0, vB false, vI 0] 39) :: ob62 B0 p0 ca1 cc2 ca3 cc4 :: ro2 ca1 cc2 p0.Held :: ro90 ca3 cc4 p0.Book :: ob57 b5 p1 :: L)) _ := h.sel 5 [4, 0, 1, 2, 3] (by kernel_rfl) (by kernel_rfl)
     refine stos (wn rfl) hr h 0 (cl_T_api_Effect r30) (ca_T_api_Effect r30) fun w h => ?_
     refine wpList_nil ?_
     replace h : Fit z (sepL (ob39 b6 r30 :: ob62 B0 p0 ca1 cc2 ca3 cc4 :: ro2 ca1 cc2 p0.Held :: ro90 ca3 cc4 p0.Book :: ob57 b5 p1 :: L)) _ := h
     refine then_normal ?_
     refine wp_ret ?_
     refine then_ret ?_
     refine end_retC (cs := cl_T_api_Effect r30) rfl hr (by kernel_rfl) (by kernel_rfl) (by kernel_rfl) (h.held 0 rfl) ?_
     replace H := jx0 H hK24
     replace h : Fit z (sepL (ob62 B0 p0 ca1 cc2 ca3 cc4 :: ro2 ca1 cc2 p0.Held :: ro90 ca3 cc4 p0.Book :: L)) _ := h.sel 5 [1, 2, 3] (by kernel_rfl) (by kernel_rfl)
     obtain ⟨rfl, rfl⟩ := ej2 H
     exact ⟨ca1, cc2, ca3, cc4, rfl, h⟩
    ·
     replace H := ifF c29 H
     refine cond_ff hr (decide_eq_false c29) ?_
     refine wp_skip ?_
     refine then_normal ?_
     replace hr := hr.fold2 [(0, pA B0 0), (3, pA b5 0), (4, pA b6 0)] (by kernel_rfl); obtain ⟨j, hr⟩ := hr
     exact ⟨(), sinj H, j, hr, h⟩
  clear h hr a; rintro _ a w ⟨rfl, j, hr, h⟩
  replace H := jk0 hK24
  refine wp_seq ?_
  obtain ⟨c32, H⟩ := gd H
  refine reg_E (fun w => heldC w B0 1 ([.slice ca1 p0.Held.length cc2]) ∧ heldC w b5 2 ([vI p1.Addr]) ∧ heldC w (blk ca1) (p1.Addr.toNat * 1) ([vI (at_ p0.Held p1.Addr.toNat)]) ∧ True) [1, 2, 4, 6] h (by kernel_rfl) ?_; intro w h
  change wpAnyE _ _ _ _ _ _ 9 (Array.replicate 9 false) a w
  have hgo : ∀ w w', CellsGo w w' → (heldC w B0 1 ([.slice ca1 p0.Held.length cc2]) ∧ heldC w b5 2 ([vI p1.Addr]) ∧ heldC w (blk ca1) (p1.Addr.toNat * 1) ([vI (at_ p0.Held p1.Addr.toNat)]) ∧ True) → heldC w' B0 1 ([.slice ca1 p0.Held.length cc2]) ∧ heldC w' b5 2 ([vI p1.Addr]) ∧ heldC w' (blk ca1) (p1.Addr.toNat * 1) ([vI (at_ p0.Held p1.Addr.toNat)]) ∧ True := fun w w' g hD => ⟨heldC_go _ _ _ _ _ g hD.1, heldC_go _ _ _ _ _ g hD.2.1, heldC_go _ _ _ _ _ g hD.2.2.1, trivial⟩
  refine evs 8 0 rfl (wn rfl) hr (pA B0 0) fun a hr => ?_
  refine evDs hgo ⟨⟨h.cell 1 rfl, trivial⟩, ⟨(h.pick 3).cell 2 rfl, trivial⟩, ⟨(h.pick 1).row_cell encZ_i64_ok (f := 0) (at_ok c32) rfl, trivial⟩, trivial⟩ 7 1 rfl (wn rfl) hr (pA B0 0) fun a hr => ?_
  refine evDs hgo ⟨⟨h.cell 1 rfl, trivial⟩, ⟨(h.pick 3).cell 2 rfl, trivial⟩, ⟨(h.pick 1).row_cell encZ_i64_ok (f := 0) (at_ok c32) rfl, trivial⟩, trivial⟩ 6 2 rfl (wn rfl) hr (pA B0 1) fun a hr => ?_
  refine evDs hgo ⟨⟨h.cell 1 rfl, trivial⟩, ⟨(h.pick 3).cell 2 rfl, trivial⟩, ⟨(h.pick 1).row_cell encZ_i64_ok (f := 0) (at_ok c32) rfl, trivial⟩, trivial⟩ 5 4 rfl (wn rfl) hr (pA b5 2) fun a hr => ?_
  refine el [1, 2, 4, 6] (b := B0) (off := 1) (cs := [.slice ca1 p0.Held.length cc2]) (fun _ hk => ⟨hk, fun w hD => hD.1⟩) 4 3 rfl (by kernel_rfl) (wn rfl) hr (.slice ca1 p0.Held.length cc2) ⟨h.cell 1 rfl, trivial⟩ (fun w hc => rl rfl (by kernel_rfl) (by kernel_rfl) hc.1) fun a hr => ?_
  refine el [1, 2, 4, 6] (b := b5) (off := 2) (cs := [vI p1.Addr]) (fun _ hk => ⟨hk, fun w hD => hD.2.1⟩) 3 5 rfl (by kernel_rfl) (wn rfl) hr (vI p1.Addr) ⟨(h.pick 3).cell 2 rfl, trivial⟩ (fun w hc => rl rfl (by kernel_rfl) (by kernel_rfl) hc.1) fun a hr => ?_
  refine evD hgo ⟨⟨h.cell 1 rfl, trivial⟩, ⟨(h.pick 3).cell 2 rfl, trivial⟩, ⟨(h.pick 1).row_cell encZ_i64_ok (f := 0) (at_ok c32) rfl, trivial⟩, trivial⟩ 2 6 rfl (by kernel_rfl) (wn rfl) hr (pA (blk ca1) (p1.Addr.toNat * 1)) (fun w => ri_row (k := .i64) (E := 2) rfl (by kernel_rfl) (by kernel_rfl) (by kernel_rfl) (by kernel_rfl) (h.pick 1) c32) fun a hr => ?_
  refine el [1, 2, 4, 6] (b := blk ca1) (off := p1.Addr.toNat * 1) (cs := [vI (at_ p0.Held p1.Addr.toNat)]) (fun _ hk => ⟨hk, fun w hD => hD.2.2.1⟩) 1 7 rfl (by kernel_rfl) (wn rfl) hr (vI (at_ p0.Held p1.Addr.toNat)) ⟨(h.pick 1).row_cell encZ_i64_ok (f := 0) (at_ok c32) rfl, trivial⟩ (fun w hc => rl rfl (by kernel_rfl) (by kernel_rfl) hc.1) fun a hr => ?_
  refine evs 0 8 rfl (wn rfl) hr (vI (at_ p0.Held p1.Addr.toNat)) fun a hr => ?_
  refine e_end (by kernel_rfl) ?_
  refine then_normal ?_
  refine wp_seq ?_
  refine reg_E (fun w => heldC w B0 3 ([vI p0.Actor]) ∧ heldC w b5 1 ([vI p1.Kind]) ∧ heldC w b5 2 ([vI p1.Addr]) ∧ True) [1, 2, 4, 6] h (by kernel_rfl) ?_; intro w h
  change wpAnyE _ _ _ _ _ _ 11 (Array.replicate 11 false) a w
  have hgo : ∀ w w', CellsGo w w' → (heldC w B0 3 ([vI p0.Actor]) ∧ heldC w b5 1 ([vI p1.Kind]) ∧ heldC w b5 2 ([vI p1.Addr]) ∧ True) → heldC w' B0 3 ([vI p0.Actor]) ∧ heldC w' b5 1 ([vI p1.Kind]) ∧ heldC w' b5 2 ([vI p1.Addr]) ∧ True := fun w w' g hD => ⟨heldC_go _ _ _ _ _ g hD.1, heldC_go _ _ _ _ _ g hD.2.1, heldC_go _ _ _ _ _ g hD.2.2.1, trivial⟩
  refine evs 10 0 rfl (wn rfl) hr (pA B0 0) fun a hr => ?_
  refine evDs hgo ⟨⟨h.cell 3 rfl, trivial⟩, ⟨(h.pick 3).cell 1 rfl, trivial⟩, ⟨(h.pick 3).cell 2 rfl, trivial⟩, trivial⟩ 9 1 rfl (wn rfl) hr (pA B0 0) fun a hr => ?_
  refine evDs hgo ⟨⟨h.cell 3 rfl, trivial⟩, ⟨(h.pick 3).cell 1 rfl, trivial⟩, ⟨(h.pick 3).cell 2 rfl, trivial⟩, trivial⟩ 8 2 rfl (wn rfl) hr (pA B0 3) fun a hr => ?_
  refine evDs hgo ⟨⟨h.cell 3 rfl, trivial⟩, ⟨(h.pick 3).cell 1 rfl, trivial⟩, ⟨(h.pick 3).cell 2 rfl, trivial⟩, trivial⟩ 7 4 rfl (wn rfl) hr (pA b5 1) fun a hr => ?_
  refine evDs hgo ⟨⟨h.cell 3 rfl, trivial⟩, ⟨(h.pick 3).cell 1 rfl, trivial⟩, ⟨(h.pick 3).cell 2 rfl, trivial⟩, trivial⟩ 6 6 rfl (wn rfl) hr (pA b5 2) fun a hr => ?_
  refine el [1, 2, 4, 6] (b := B0) (off := 3) (cs := [vI p0.Actor]) (fun _ hk => ⟨hk, fun w hD => hD.1⟩) 5 3 rfl (by kernel_rfl) (wn rfl) hr (vI p0.Actor) ⟨h.cell 3 rfl, trivial⟩ (fun w hc => rl rfl (by kernel_rfl) (by kernel_rfl) hc.1) fun a hr => ?_
  refine el [1, 2, 4, 6] (b := b5) (off := 1) (cs := [vI p1.Kind]) (fun _ hk => ⟨hk, fun w hD => hD.2.1⟩) 4 5 rfl (by kernel_rfl) (wn rfl) hr (vI p1.Kind) ⟨(h.pick 3).cell 1 rfl, trivial⟩ (fun w hc => rl rfl (by kernel_rfl) (by kernel_rfl) hc.1) fun a hr => ?_
  refine el [1, 2, 4, 6] (b := b5) (off := 2) (cs := [vI p1.Addr]) (fun _ hk => ⟨hk, fun w hD => hD.2.2.1⟩) 3 7 rfl (by kernel_rfl) (wn rfl) hr (vI p1.Addr) ⟨(h.pick 3).cell 2 rfl, trivial⟩ (fun w hc => rl rfl (by kernel_rfl) (by kernel_rfl) hc.1) fun a hr => ?_
  refine evs 2 8 rfl (wn rfl) hr (.agg #[vI p0.Actor, vI p1.Kind, vI p1.Addr, vI 0, vI 0, vB true]) fun a hr => ?_
  refine e_one (fuel := 1) (i := 9) (by kernel_rfl) rfl ?_
  refine onew (wn rfl) hr h nb (#[vI 0, vI 0, vI 0, vI 0, vI 0, vB false]) 90 fun b33 w a h hr => ?_
  refine wpList_nil ?_; refine then_normal ?_
  refine ⟨fun hE => absurd hE (by decide), ?_⟩
  refine e_one (fuel := 0) (i := 10) (by kernel_rfl) rfl ?_
  refine stos (wn rfl) hr h 0 ([vI p0.Actor, vI p1.Kind, vI p1.Addr, vI 0, vI 0, vB true]) (#[vI p0.Actor, vI p1.Kind, vI p1.Addr, vI 0, vI 0, vB true]) fun w h => ?_
  refine wpList_nil ?_; refine then_normal ?_
  replace h : Fit z (sepL (pts b33 (.cells #[vI p0.Actor, vI p1.Kind, vI p1.Addr, vI 0, vI 0, vB true] 90) :: ob62 B0 p0 ca1 cc2 ca3 cc4 :: ro2 ca1 cc2 p0.Held :: ro90 ca3 cc4 p0.Book :: ob57 b5 p1 :: pts b6 (.cells #[vI 0, vB false, vI 0] 39) :: L)) _ := h
  refine ⟨fun hE => absurd hE (by decide), ?_⟩
  refine e_end (by kernel_rfl) ?_
  refine then_normal ?_
  refine sr ?_
  refine o1 hr (.agg #[vI 0, vB true, vI 0]) fun a hr => ?_
  refine onew (wn rfl) hr h nb (#[vI 0, vB false, vI 0]) 39 fun b34 w a h hr => ?_
  refine stos (wn rfl) hr h 0 ([vI 0, vB true, vI 0]) (#[vI 0, vB true, vI 0]) fun w h => ?_
  refine wpList_nil ?_
  replace h : Fit z (sepL (pts b34 (.cells #[vI 0, vB true, vI 0] 39) :: pts b33 (.cells #[vI p0.Actor, vI p1.Kind, vI p1.Addr, vI 0, vI 0, vB true] 90) :: ob62 B0 p0 ca1 cc2 ca3 cc4 :: ro2 ca1 cc2 p0.Held :: ro90 ca3 cc4 p0.Book :: ob57 b5 p1 :: pts b6 (.cells #[vI 0, vB false, vI 0] 39) :: L)) _ := h
  refine then_normal ?_
  refine wp_seq ?_
  refine sr ?_
  refine o1 hr (pA b5 1) fun a hr => ?_
  refine ld (wn rfl) hr (vI p1.Kind) ((h.pick 5).cell 1 rfl) fun a hr => ?_
  refine ln ?_
  refine wp_block ?_
  refine sr ?_
  refine oo [85, 84] [vB (p1.Kind == 0), vB (p1.Kind == 0)] hr fun a hr => ?_
  refine ln ?_
  by_cases c35 : p1.Kind = 0
  ·
   replace H := ifT c35 H
   refine cond_tt hr (beq_iff_eq.mpr c35) ?_
   refine sr ?_
   refine oo [86, 87] [vI (at_ p0.Held p1.Addr.toNat), pA b33 3] hr fun a hr => ?_
   replace h : Fit z (sepL (pts b33 (.cells #[vI p0.Actor, vI p1.Kind, vI p1.Addr, vI 0, vI 0, vB true] 90) :: pts b34 (.cells #[vI 0, vB true, vI 0] 39) :: ob62 B0 p0 ca1 cc2 ca3 cc4 :: ro2 ca1 cc2 p0.Held :: ro90 ca3 cc4 p0.Book :: ob57 b5 p1 :: pts b6 (.cells #[vI 0, vB false, vI 0] 39) :: L)) _ := h.sel 7 [1, 0, 2, 3, 4, 5, 6] (by kernel_rfl) (by kernel_rfl)
   refine sto (wn rfl) hr h 3 (vI (at_ p0.Held p1.Addr.toNat)) fun w h => ?_
   refine wpList_nil ?_
   replace h : Fit z (sepL (pts b33 (.cells #[vI p0.Actor, vI p1.Kind, vI p1.Addr, vI (at_ p0.Held p1.Addr.toNat), vI 0, vB true] 90) :: pts b34 (.cells #[vI 0, vB true, vI 0] 39) :: ob62 B0 p0 ca1 cc2 ca3 cc4 :: ro2 ca1 cc2 p0.Held :: ro90 ca3 cc4 p0.Book :: ob57 b5 p1 :: pts b6 (.cells #[vI 0, vB false, vI 0] 39) :: L)) _ := h
   refine then_normal ?_
   refine wp_region_lit ?_
   refine oo [88, 89] [vI (at_ p0.Held p1.Addr.toNat), pA b34 0] hr fun a hr => ?_
   replace h : Fit z (sepL (pts b34 (.cells #[vI 0, vB true, vI 0] 39) :: pts b33 (.cells #[vI p0.Actor, vI p1.Kind, vI p1.Addr, vI (at_ p0.Held p1.Addr.toNat), vI 0, vB true] 90) :: ob62 B0 p0 ca1 cc2 ca3 cc4 :: ro2 ca1 cc2 p0.Held :: ro90 ca3 cc4 p0.Book :: ob57 b5 p1 :: pts b6 (.cells #[vI 0, vB false, vI 0] 39) :: L)) _ := h.sel 7 [1, 0, 2, 3, 4, 5, 6] (by kernel_rfl) (by kernel_rfl)
   refine sto (wn rfl) hr h 0 (vI (at_ p0.Held p1.Addr.toNat)) fun w h => ?_
   refine wpList_nil ?_
   replace h : Fit z (sepL (pts b34 (.cells #[vI (at_ p0.Held p1.Addr.toNat), vB true, vI 0] 39) :: pts b33 (.cells #[vI p0.Actor, vI p1.Kind, vI p1.Addr, vI (at_ p0.Held p1.Addr.toNat), vI 0, vB true] 90) :: ob62 B0 p0 ca1 cc2 ca3 cc4 :: ro2 ca1 cc2 p0.Held :: ro90 ca3 cc4 p0.Book :: ob57 b5 p1 :: pts b6 (.cells #[vI 0, vB false, vI 0] 39) :: L)) _ := h
   refine blk_normal ?_
   refine then_normal ?_
   refine sr ?_
   refine o1 hr (pA B0 0) fun a hr => ?_
   refine ldm (wn rfl) hr (.agg #[vI p0.Actor, vI p1.Kind, vI p1.Addr, vI (at_ p0.Held p1.Addr.toNat), vI 0, vB true]) (cs := [vI p0.Actor, vI p1.Kind, vI p1.Addr, vI (at_ p0.Held p1.Addr.toNat), vI 0, vB true]) ((h.pick 1).held 0 rfl) fun a hr => ?_
   obtain ⟨S36, e37, H⟩ := bd1 H
   replace h : Fit z (sepL (ob62 B0 p0 ca1 cc2 ca3 cc4 :: ro2 ca1 cc2 p0.Held :: ro90 ca3 cc4 p0.Book :: pts b34 (.cells #[vI (at_ p0.Held p1.Addr.toNat), vB true, vI 0] 39) :: pts b33 (.cells #[vI p0.Actor, vI p1.Kind, vI p1.Addr, vI (at_ p0.Held p1.Addr.toNat), vI 0, vB true] 90) :: ob57 b5 p1 :: pts b6 (.cells #[vI 0, vB false, vI 0] 39) :: L)) _ := h.sel 7 [2, 3, 4, 0, 1, 5, 6] (by kernel_rfl) (by kernel_rfl)
   have hc := plunderref2_Arena_note_ok (H := e37) (h := h)
   refine cl (wn rfl) hr hc ?_; clear hc h
   rintro _ w ⟨caq38, ccq39, caq40, ccq41, rfl, h⟩; refine ⟨_, rfl, fun a hr => ?_⟩
   refine ln ?_
   refine sr ?_
   refine ldm (wn rfl) hr (.agg #[vI (at_ p0.Held p1.Addr.toNat), vB true, vI 0]) (cs := [vI (at_ p0.Held p1.Addr.toNat), vB true, vI 0]) ((h.pick 3).held 0 rfl) fun a hr => ?_
   replace h : Fit z (sepL (pts b6 (.cells #[vI 0, vB false, vI 0] 39) :: ob62 B0 S36 caq38 ccq39 caq40 ccq41 :: ro2 caq38 ccq39 S36.Held :: ro90 caq40 ccq41 S36.Book :: pts b34 (.cells #[vI (at_ p0.Held p1.Addr.toNat), vB true, vI 0] 39) :: pts b33 (.cells #[vI p0.Actor, vI p1.Kind, vI p1.Addr, vI (at_ p0.Held p1.Addr.toNat), vI 0, vB true] 90) :: ob57 b5 p1 :: L)) _ := h.sel 7 [6, 0, 1, 2, 3, 4, 5] (by kernel_rfl) (by kernel_rfl)
   refine stos (wn rfl) hr h 0 ([vI (at_ p0.Held p1.Addr.toNat), vB true, vI 0]) (#[vI (at_ p0.Held p1.Addr.toNat), vB true, vI 0]) fun w h => ?_
   refine wpList_nil ?_
   replace h : Fit z (sepL (pts b6 (.cells #[vI (at_ p0.Held p1.Addr.toNat), vB true, vI 0] 39) :: ob62 B0 S36 caq38 ccq39 caq40 ccq41 :: ro2 caq38 ccq39 S36.Held :: ro90 caq40 ccq41 S36.Book :: pts b34 (.cells #[vI (at_ p0.Held p1.Addr.toNat), vB true, vI 0] 39) :: pts b33 (.cells #[vI p0.Actor, vI p1.Kind, vI p1.Addr, vI (at_ p0.Held p1.Addr.toNat), vI 0, vB true] 90) :: ob57 b5 p1 :: L)) _ := h
   refine then_normal ?_
   refine wp_ret ?_
   refine end_retC (cs := [vI (at_ p0.Held p1.Addr.toNat), vB true, vI 0]) rfl hr (by kernel_rfl) (by kernel_rfl) (by kernel_rfl) (h.held 0 rfl) ?_
   replace h : Fit z (sepL (ob62 B0 S36 caq38 ccq39 caq40 ccq41 :: ro2 caq38 ccq39 S36.Held :: ro90 caq40 ccq41 S36.Book :: L)) _ := h.sel 7 [1, 2, 3] (by kernel_rfl) (by kernel_rfl)
   obtain ⟨rfl, rfl⟩ := ej2 H
   exact ⟨caq38, ccq39, caq40, ccq41, rfl, h⟩
  ·
   replace H := ifF c35 H
   refine cond_ff hr (beq_eq_false_iff_ne.mpr c35) ?_
   refine sr ?_
   refine oo [91, 90] [vB (p1.Kind == 1), vB (p1.Kind == 1)] hr fun a hr => ?_
   refine ln ?_
   by_cases c42 : p1.Kind = 1
   ·
    replace H := ifT c42 H
    refine cond_tt hr (beq_iff_eq.mpr c42) ?_
    refine sr ?_
    refine o1 hr (pA b5 3) fun a hr => ?_
    refine ld (wn rfl) hr (vI p1.A) ((h.pick 5).cell 3 rfl) fun a hr => ?_
    refine o1 hr (pA b33 3) fun a hr => ?_
    replace h : Fit z (sepL (pts b33 (.cells #[vI p0.Actor, vI p1.Kind, vI p1.Addr, vI 0, vI 0, vB true] 90) :: pts b34 (.cells #[vI 0, vB true, vI 0] 39) :: ob62 B0 p0 ca1 cc2 ca3 cc4 :: ro2 ca1 cc2 p0.Held :: ro90 ca3 cc4 p0.Book :: ob57 b5 p1 :: pts b6 (.cells #[vI 0, vB false, vI 0] 39) :: L)) _ := h.sel 7 [1, 0, 2, 3, 4, 5, 6] (by kernel_rfl) (by kernel_rfl)
    refine sto (wn rfl) hr h 3 (vI p1.A) fun w h => ?_
    refine wpList_nil ?_
    replace h : Fit z (sepL (pts b33 (.cells #[vI p0.Actor, vI p1.Kind, vI p1.Addr, vI p1.A, vI 0, vB true] 90) :: pts b34 (.cells #[vI 0, vB true, vI 0] 39) :: ob62 B0 p0 ca1 cc2 ca3 cc4 :: ro2 ca1 cc2 p0.Held :: ro90 ca3 cc4 p0.Book :: ob57 b5 p1 :: pts b6 (.cells #[vI 0, vB false, vI 0] 39) :: L)) _ := h
    refine then_normal ?_
    refine reg_E (fun w => heldC w B0 1 ([.slice ca1 p0.Held.length cc2]) ∧ heldC w b5 2 ([vI p1.Addr]) ∧ heldC w b5 3 ([vI p1.A]) ∧ True) [1, 2, 4, 6] h (by kernel_rfl) ?_; intro w h
    change wpAnyE _ _ _ _ _ _ 10 (Array.replicate 10 false) a w
    have hgo : ∀ w w', CellsGo w w' → (heldC w B0 1 ([.slice ca1 p0.Held.length cc2]) ∧ heldC w b5 2 ([vI p1.Addr]) ∧ heldC w b5 3 ([vI p1.A]) ∧ True) → heldC w' B0 1 ([.slice ca1 p0.Held.length cc2]) ∧ heldC w' b5 2 ([vI p1.Addr]) ∧ heldC w' b5 3 ([vI p1.A]) ∧ True := fun w w' g hD => ⟨heldC_go _ _ _ _ _ g hD.1, heldC_go _ _ _ _ _ g hD.2.1, heldC_go _ _ _ _ _ g hD.2.2.1, trivial⟩
    refine evs 9 0 rfl (wn rfl) hr (pA B0 0) fun a hr => ?_
    refine evDs hgo ⟨⟨(h.pick 2).cell 1 rfl, trivial⟩, ⟨(h.pick 5).cell 2 rfl, trivial⟩, ⟨(h.pick 5).cell 3 rfl, trivial⟩, trivial⟩ 8 1 rfl (wn rfl) hr (pA B0 0) fun a hr => ?_
    refine evDs hgo ⟨⟨(h.pick 2).cell 1 rfl, trivial⟩, ⟨(h.pick 5).cell 2 rfl, trivial⟩, ⟨(h.pick 5).cell 3 rfl, trivial⟩, trivial⟩ 7 2 rfl (wn rfl) hr (pA B0 1) fun a hr => ?_
    refine evDs hgo ⟨⟨(h.pick 2).cell 1 rfl, trivial⟩, ⟨(h.pick 5).cell 2 rfl, trivial⟩, ⟨(h.pick 5).cell 3 rfl, trivial⟩, trivial⟩ 6 4 rfl (wn rfl) hr (pA b5 2) fun a hr => ?_
    refine evDs hgo ⟨⟨(h.pick 2).cell 1 rfl, trivial⟩, ⟨(h.pick 5).cell 2 rfl, trivial⟩, ⟨(h.pick 5).cell 3 rfl, trivial⟩, trivial⟩ 5 6 rfl (wn rfl) hr (pA b5 3) fun a hr => ?_
    refine el [1, 2, 4, 6] (b := B0) (off := 1) (cs := [.slice ca1 p0.Held.length cc2]) (fun _ hk => ⟨hk, fun w hD => hD.1⟩) 4 3 rfl (by kernel_rfl) (wn rfl) hr (.slice ca1 p0.Held.length cc2) ⟨(h.pick 2).cell 1 rfl, trivial⟩ (fun w hc => rl rfl (by kernel_rfl) (by kernel_rfl) hc.1) fun a hr => ?_
    refine el [1, 2, 4, 6] (b := b5) (off := 2) (cs := [vI p1.Addr]) (fun _ hk => ⟨hk, fun w hD => hD.2.1⟩) 3 5 rfl (by kernel_rfl) (wn rfl) hr (vI p1.Addr) ⟨(h.pick 5).cell 2 rfl, trivial⟩ (fun w hc => rl rfl (by kernel_rfl) (by kernel_rfl) hc.1) fun a hr => ?_
    refine el [1, 2, 4, 6] (b := b5) (off := 3) (cs := [vI p1.A]) (fun _ hk => ⟨hk, fun w hD => hD.2.2.1⟩) 2 7 rfl (by kernel_rfl) (wn rfl) hr (vI p1.A) ⟨(h.pick 5).cell 3 rfl, trivial⟩ (fun w hc => rl rfl (by kernel_rfl) (by kernel_rfl) hc.1) fun a hr => ?_
    refine ev 1 8 rfl (by kernel_rfl) (wn rfl) hr (pA (blk ca1) (p1.Addr.toNat * 1)) (fun w => ri_row (k := .i64) (E := 2) rfl (by kernel_rfl) (by kernel_rfl) (by kernel_rfl) (by kernel_rfl) (h.pick 3) c32) fun a hr => ?_
    refine e_one (fuel := 0) (i := 9) (by kernel_rfl) rfl ?_
    replace h : Fit z (sepL (ro2 ca1 cc2 p0.Held :: pts b33 (.cells #[vI p0.Actor, vI p1.Kind, vI p1.Addr, vI p1.A, vI 0, vB true] 90) :: pts b34 (.cells #[vI 0, vB true, vI 0] 39) :: ob62 B0 p0 ca1 cc2 ca3 cc4 :: ro90 ca3 cc4 p0.Book :: ob57 b5 p1 :: pts b6 (.cells #[vI 0, vB false, vI 0] 39) :: L)) _ := h.sel 7 [3, 0, 1, 2, 4, 5, 6] (by kernel_rfl) (by kernel_rfl)
    refine stor (wn rfl) hr encZ_i64_ok h p1.Addr.toNat 0 (vI p1.A) (at_ p0.Held p1.Addr.toNat) p1.A (at_ok c32) fun w h => ?_
    replace h : Fit z (sepL (rowOf 2 1 encZ_i64 (.slice ca1 p0.Held.length cc2) (p0.Held.set p1.Addr.toNat p1.A) :: pts b33 (.cells #[vI p0.Actor, vI p1.Kind, vI p1.Addr, vI p1.A, vI 0, vB true] 90) :: pts b34 (.cells #[vI 0, vB true, vI 0] 39) :: ob62 B0 p0 ca1 cc2 ca3 cc4 :: ro90 ca3 cc4 p0.Book :: ob57 b5 p1 :: pts b6 (.cells #[vI 0, vB false, vI 0] 39) :: L)) _ := h
    refine wpList_nil ?_; refine then_normal ?_
    refine ⟨fun hE => absurd hE (by decide), ?_⟩
    refine e_end (by kernel_rfl) ?_
    refine blk_normal ?_
    refine then_normal ?_
    refine sr ?_
    refine o1 hr (pA B0 0) fun a hr => ?_
    refine ldm (wn rfl) hr (.agg #[vI p0.Actor, vI p1.Kind, vI p1.Addr, vI p1.A, vI 0, vB true]) (cs := [vI p0.Actor, vI p1.Kind, vI p1.Addr, vI p1.A, vI 0, vB true]) ((h.pick 1).held 0 rfl) fun a hr => ?_
    have hn42 := h.row_n
    replace h : Fit z (sepL (ro2 ca1 cc2 (p0.Held.set p1.Addr.toNat p1.A) :: pts b33 (.cells #[vI p0.Actor, vI p1.Kind, vI p1.Addr, vI p1.A, vI 0, vB true] 90) :: pts b34 (.cells #[vI 0, vB true, vI 0] 39) :: pts B0 (.cells #[vI p0.Most, .slice ca1 (p0.Held.set p1.Addr.toNat p1.A).length cc2, vB p0.On, vI p0.Actor, .slice ca3 p0.Book.length cc4] 62) :: ro90 ca3 cc4 p0.Book :: ob57 b5 p1 :: pts b6 (.cells #[vI 0, vB false, vI 0] 39) :: L)) w := (congrArg (fun q_ : Nat => Fit z (sepL (rowOf 2 1 encZ_i64 (.slice ca1 q_ cc2) (p0.Held.set p1.Addr.toNat p1.A) :: pts b33 (.cells #[vI p0.Actor, vI p1.Kind, vI p1.Addr, vI p1.A, vI 0, vB true] 90) :: pts b34 (.cells #[vI 0, vB true, vI 0] 39) :: pts B0 (.cells #[vI p0.Most, .slice ca1 q_ cc2, vB p0.On, vI p0.Actor, .slice ca3 p0.Book.length cc4] 62) :: ro90 ca3 cc4 p0.Book :: ob57 b5 p1 :: pts b6 (.cells #[vI 0, vB false, vI 0] 39) :: L)) w) h.row_n).mp h
    obtain ⟨S44, e45, H⟩ := bd1 H
    replace h : Fit z (sepL (pts B0 (.cells #[vI p0.Most, .slice ca1 (p0.Held.set p1.Addr.toNat p1.A).length cc2, vB p0.On, vI p0.Actor, .slice ca3 p0.Book.length cc4] 62) :: ro2 ca1 cc2 (p0.Held.set p1.Addr.toNat p1.A) :: ro90 ca3 cc4 p0.Book :: pts b33 (.cells #[vI p0.Actor, vI p1.Kind, vI p1.Addr, vI p1.A, vI 0, vB true] 90) :: pts b34 (.cells #[vI 0, vB true, vI 0] 39) :: ob57 b5 p1 :: pts b6 (.cells #[vI 0, vB false, vI 0] 39) :: L)) _ := h.sel 7 [3, 0, 4, 1, 2, 5, 6] (by kernel_rfl) (by kernel_rfl)
    have hc := plunderref2_Arena_note_ok (H := e45) (h := h)
    refine cl (wn rfl) hr hc ?_; clear hc h
    rintro _ w ⟨caq46, ccq47, caq48, ccq49, rfl, h⟩; refine ⟨_, rfl, fun a hr => ?_⟩
    refine ln ?_
    refine sr ?_
    refine ldm (wn rfl) hr (.agg #[vI 0, vB true, vI 0]) (cs := [vI 0, vB true, vI 0]) ((h.pick 4).held 0 rfl) fun a hr => ?_
    replace h : Fit z (sepL (pts b6 (.cells #[vI 0, vB false, vI 0] 39) :: ob62 B0 S44 caq46 ccq47 caq48 ccq49 :: ro2 caq46 ccq47 S44.Held :: ro90 caq48 ccq49 S44.Book :: pts b33 (.cells #[vI p0.Actor, vI p1.Kind, vI p1.Addr, vI p1.A, vI 0, vB true] 90) :: pts b34 (.cells #[vI 0, vB true, vI 0] 39) :: ob57 b5 p1 :: L)) _ := h.sel 7 [6, 0, 1, 2, 3, 4, 5] (by kernel_rfl) (by kernel_rfl)
    refine stos (wn rfl) hr h 0 ([vI 0, vB true, vI 0]) (#[vI 0, vB true, vI 0]) fun w h => ?_
    refine wpList_nil ?_
    replace h : Fit z (sepL (pts b6 (.cells #[vI 0, vB true, vI 0] 39) :: ob62 B0 S44 caq46 ccq47 caq48 ccq49 :: ro2 caq46 ccq47 S44.Held :: ro90 caq48 ccq49 S44.Book :: pts b33 (.cells #[vI p0.Actor, vI p1.Kind, vI p1.Addr, vI p1.A, vI 0, vB true] 90) :: pts b34 (.cells #[vI 0, vB true, vI 0] 39) :: ob57 b5 p1 :: L)) _ := h
    refine then_normal ?_
    refine wp_ret ?_
    refine end_retC (cs := [vI 0, vB true, vI 0]) rfl hr (by kernel_rfl) (by kernel_rfl) (by kernel_rfl) (h.held 0 rfl) ?_
    replace h : Fit z (sepL (ob62 B0 S44 caq46 ccq47 caq48 ccq49 :: ro2 caq46 ccq47 S44.Held :: ro90 caq48 ccq49 S44.Book :: L)) _ := h.sel 7 [1, 2, 3] (by kernel_rfl) (by kernel_rfl)
    obtain ⟨rfl, rfl⟩ := ej2 H
    exact ⟨caq46, ccq47, caq48, ccq49, rfl, h⟩
   ·
    replace H := ifF c42 H
    refine cond_ff hr (beq_eq_false_iff_ne.mpr c42) ?_
    refine sr ?_
    refine oo [105, 104] [vB (p1.Kind == 2), vB (p1.Kind == 2)] hr fun a hr => ?_
    refine ln ?_
    by_cases c50 : p1.Kind = 2
    ·
     replace H := ifT c50 H
     refine cond_tt hr (beq_iff_eq.mpr c50) ?_
     refine sr ?_
     refine o1 hr (pA b5 3) fun a hr => ?_
     refine ld (wn rfl) hr (vI p1.A) ((h.pick 5).cell 3 rfl) fun a hr => ?_
     refine o1 hr (pA b33 3) fun a hr => ?_
     replace h : Fit z (sepL (pts b33 (.cells #[vI p0.Actor, vI p1.Kind, vI p1.Addr, vI 0, vI 0, vB true] 90) :: pts b34 (.cells #[vI 0, vB true, vI 0] 39) :: ob62 B0 p0 ca1 cc2 ca3 cc4 :: ro2 ca1 cc2 p0.Held :: ro90 ca3 cc4 p0.Book :: ob57 b5 p1 :: pts b6 (.cells #[vI 0, vB false, vI 0] 39) :: L)) _ := h.sel 7 [1, 0, 2, 3, 4, 5, 6] (by kernel_rfl) (by kernel_rfl)
     refine sto (wn rfl) hr h 3 (vI p1.A) fun w h => ?_
     refine wpList_nil ?_
     replace h : Fit z (sepL (pts b33 (.cells #[vI p0.Actor, vI p1.Kind, vI p1.Addr, vI p1.A, vI 0, vB true] 90) :: pts b34 (.cells #[vI 0, vB true, vI 0] 39) :: ob62 B0 p0 ca1 cc2 ca3 cc4 :: ro2 ca1 cc2 p0.Held :: ro90 ca3 cc4 p0.Book :: ob57 b5 p1 :: pts b6 (.cells #[vI 0, vB false, vI 0] 39) :: L)) _ := h
     refine then_normal ?_
     refine sr ?_
     refine o1 hr (pA b5 4) fun a hr => ?_
     refine ld (wn rfl) hr (vI p1.B) ((h.pick 5).cell 4 rfl) fun a hr => ?_
     refine o1 hr (pA b33 4) fun a hr => ?_
     refine sto (wn rfl) hr h 4 (vI p1.B) fun w h => ?_
     refine wpList_nil ?_
     replace h : Fit z (sepL (pts b33 (.cells #[vI p0.Actor, vI p1.Kind, vI p1.Addr, vI p1.A, vI p1.B, vB true] 90) :: pts b34 (.cells #[vI 0, vB true, vI 0] 39) :: ob62 B0 p0 ca1 cc2 ca3 cc4 :: ro2 ca1 cc2 p0.Held :: ro90 ca3 cc4 p0.Book :: ob57 b5 p1 :: pts b6 (.cells #[vI 0, vB false, vI 0] 39) :: L)) _ := h
     refine then_normal ?_
     refine sr ?_
     refine oo [112, 113] [vI (at_ p0.Held p1.Addr.toNat), pA b5 3] hr fun a hr => ?_
     refine ld (wn rfl) hr (vI p1.A) ((h.pick 5).cell 3 rfl) fun a hr => ?_
     refine oo [115, 116] [vB ((at_ p0.Held p1.Addr.toNat) == p1.A), pA b33 5] hr fun a hr => ?_
     refine sto (wn rfl) hr h 5 (vB ((at_ p0.Held p1.Addr.toNat) == p1.A)) fun w h => ?_
     refine wpList_nil ?_
     replace h : Fit z (sepL (pts b33 (.cells #[vI p0.Actor, vI p1.Kind, vI p1.Addr, vI p1.A, vI p1.B, vB ((at_ p0.Held p1.Addr.toNat) == p1.A)] 90) :: pts b34 (.cells #[vI 0, vB true, vI 0] 39) :: ob62 B0 p0 ca1 cc2 ca3 cc4 :: ro2 ca1 cc2 p0.Held :: ro90 ca3 cc4 p0.Book :: ob57 b5 p1 :: pts b6 (.cells #[vI 0, vB false, vI 0] 39) :: L)) _ := h
     refine then_normal ?_
     refine sr ?_
     refine oo [117, 118] [vI (at_ p0.Held p1.Addr.toNat), pA b5 3] hr fun a hr => ?_
     refine ld (wn rfl) hr (vI p1.A) ((h.pick 5).cell 3 rfl) fun a hr => ?_
     refine oo [120, 121] [vB ((at_ p0.Held p1.Addr.toNat) == p1.A), pA b34 1] hr fun a hr => ?_
     replace h : Fit z (sepL (pts b34 (.cells #[vI 0, vB true, vI 0] 39) :: pts b33 (.cells #[vI p0.Actor, vI p1.Kind, vI p1.Addr, vI p1.A, vI p1.B, vB ((at_ p0.Held p1.Addr.toNat) == p1.A)] 90) :: ob62 B0 p0 ca1 cc2 ca3 cc4 :: ro2 ca1 cc2 p0.Held :: ro90 ca3 cc4 p0.Book :: ob57 b5 p1 :: pts b6 (.cells #[vI 0, vB false, vI 0] 39) :: L)) _ := h.sel 7 [1, 0, 2, 3, 4, 5, 6] (by kernel_rfl) (by kernel_rfl)
     refine sto (wn rfl) hr h 1 (vB ((at_ p0.Held p1.Addr.toNat) == p1.A)) fun w h => ?_
     refine wpList_nil ?_
     replace h : Fit z (sepL (pts b34 (.cells #[vI 0, vB ((at_ p0.Held p1.Addr.toNat) == p1.A), vI 0] 39) :: pts b33 (.cells #[vI p0.Actor, vI p1.Kind, vI p1.Addr, vI p1.A, vI p1.B, vB ((at_ p0.Held p1.Addr.toNat) == p1.A)] 90) :: ob62 B0 p0 ca1 cc2 ca3 cc4 :: ro2 ca1 cc2 p0.Held :: ro90 ca3 cc4 p0.Book :: ob57 b5 p1 :: pts b6 (.cells #[vI 0, vB false, vI 0] 39) :: L)) _ := h
     refine then_normal ?_
     refine sr ?_
     refine oo [122, 123] [vI (at_ p0.Held p1.Addr.toNat), pA b5 3] hr fun a hr => ?_
     refine ld (wn rfl) hr (vI p1.A) ((h.pick 5).cell 3 rfl) fun a hr => ?_
     refine o1 hr (vB ((at_ p0.Held p1.Addr.toNat) == p1.A)) fun a hr => ?_
     refine ln ?_
     by_cases c51 : (at_ p0.Held p1.Addr.toNat) = p1.A
     ·
      replace H := ifT c51 H
      refine cond_tt hr (beq_iff_eq.mpr c51) ?_
      refine reg_E (fun w => heldC w B0 1 ([.slice ca1 p0.Held.length cc2]) ∧ heldC w b5 2 ([vI p1.Addr]) ∧ heldC w b5 4 ([vI p1.B]) ∧ True) [1, 2, 4, 6] h (by kernel_rfl) ?_; intro w h
      change wpAnyE _ _ _ _ _ _ 10 (Array.replicate 10 false) a w
      have hgo : ∀ w w', CellsGo w w' → (heldC w B0 1 ([.slice ca1 p0.Held.length cc2]) ∧ heldC w b5 2 ([vI p1.Addr]) ∧ heldC w b5 4 ([vI p1.B]) ∧ True) → heldC w' B0 1 ([.slice ca1 p0.Held.length cc2]) ∧ heldC w' b5 2 ([vI p1.Addr]) ∧ heldC w' b5 4 ([vI p1.B]) ∧ True := fun w w' g hD => ⟨heldC_go _ _ _ _ _ g hD.1, heldC_go _ _ _ _ _ g hD.2.1, heldC_go _ _ _ _ _ g hD.2.2.1, trivial⟩
      refine evs 9 0 rfl (wn rfl) hr (pA B0 0) fun a hr => ?_
      refine evDs hgo ⟨⟨(h.pick 2).cell 1 rfl, trivial⟩, ⟨(h.pick 5).cell 2 rfl, trivial⟩, ⟨(h.pick 5).cell 4 rfl, trivial⟩, trivial⟩ 8 1 rfl (wn rfl) hr (pA B0 0) fun a hr => ?_
      refine evDs hgo ⟨⟨(h.pick 2).cell 1 rfl, trivial⟩, ⟨(h.pick 5).cell 2 rfl, trivial⟩, ⟨(h.pick 5).cell 4 rfl, trivial⟩, trivial⟩ 7 2 rfl (wn rfl) hr (pA B0 1) fun a hr => ?_
      refine evDs hgo ⟨⟨(h.pick 2).cell 1 rfl, trivial⟩, ⟨(h.pick 5).cell 2 rfl, trivial⟩, ⟨(h.pick 5).cell 4 rfl, trivial⟩, trivial⟩ 6 4 rfl (wn rfl) hr (pA b5 2) fun a hr => ?_
      refine evDs hgo ⟨⟨(h.pick 2).cell 1 rfl, trivial⟩, ⟨(h.pick 5).cell 2 rfl, trivial⟩, ⟨(h.pick 5).cell 4 rfl, trivial⟩, trivial⟩ 5 6 rfl (wn rfl) hr (pA b5 4) fun a hr => ?_
      refine el [1, 2, 4, 6] (b := B0) (off := 1) (cs := [.slice ca1 p0.Held.length cc2]) (fun _ hk => ⟨hk, fun w hD => hD.1⟩) 4 3 rfl (by kernel_rfl) (wn rfl) hr (.slice ca1 p0.Held.length cc2) ⟨(h.pick 2).cell 1 rfl, trivial⟩ (fun w hc => rl rfl (by kernel_rfl) (by kernel_rfl) hc.1) fun a hr => ?_
      refine el [1, 2, 4, 6] (b := b5) (off := 2) (cs := [vI p1.Addr]) (fun _ hk => ⟨hk, fun w hD => hD.2.1⟩) 3 5 rfl (by kernel_rfl) (wn rfl) hr (vI p1.Addr) ⟨(h.pick 5).cell 2 rfl, trivial⟩ (fun w hc => rl rfl (by kernel_rfl) (by kernel_rfl) hc.1) fun a hr => ?_
      refine el [1, 2, 4, 6] (b := b5) (off := 4) (cs := [vI p1.B]) (fun _ hk => ⟨hk, fun w hD => hD.2.2.1⟩) 2 7 rfl (by kernel_rfl) (wn rfl) hr (vI p1.B) ⟨(h.pick 5).cell 4 rfl, trivial⟩ (fun w hc => rl rfl (by kernel_rfl) (by kernel_rfl) hc.1) fun a hr => ?_
      refine ev 1 8 rfl (by kernel_rfl) (wn rfl) hr (pA (blk ca1) (p1.Addr.toNat * 1)) (fun w => ri_row (k := .i64) (E := 2) rfl (by kernel_rfl) (by kernel_rfl) (by kernel_rfl) (by kernel_rfl) (h.pick 3) c32) fun a hr => ?_
      refine e_one (fuel := 0) (i := 9) (by kernel_rfl) rfl ?_
      replace h : Fit z (sepL (ro2 ca1 cc2 p0.Held :: pts b34 (.cells #[vI 0, vB ((at_ p0.Held p1.Addr.toNat) == p1.A), vI 0] 39) :: pts b33 (.cells #[vI p0.Actor, vI p1.Kind, vI p1.Addr, vI p1.A, vI p1.B, vB ((at_ p0.Held p1.Addr.toNat) == p1.A)] 90) :: ob62 B0 p0 ca1 cc2 ca3 cc4 :: ro90 ca3 cc4 p0.Book :: ob57 b5 p1 :: pts b6 (.cells #[vI 0, vB false, vI 0] 39) :: L)) _ := h.sel 7 [3, 0, 1, 2, 4, 5, 6] (by kernel_rfl) (by kernel_rfl)
      refine stor (wn rfl) hr encZ_i64_ok h p1.Addr.toNat 0 (vI p1.B) (at_ p0.Held p1.Addr.toNat) p1.B (at_ok c32) fun w h => ?_
      replace h : Fit z (sepL (rowOf 2 1 encZ_i64 (.slice ca1 p0.Held.length cc2) (p0.Held.set p1.Addr.toNat p1.B) :: pts b34 (.cells #[vI 0, vB ((at_ p0.Held p1.Addr.toNat) == p1.A), vI 0] 39) :: pts b33 (.cells #[vI p0.Actor, vI p1.Kind, vI p1.Addr, vI p1.A, vI p1.B, vB ((at_ p0.Held p1.Addr.toNat) == p1.A)] 90) :: ob62 B0 p0 ca1 cc2 ca3 cc4 :: ro90 ca3 cc4 p0.Book :: ob57 b5 p1 :: pts b6 (.cells #[vI 0, vB false, vI 0] 39) :: L)) _ := h
      refine wpList_nil ?_; refine then_normal ?_
      refine ⟨fun hE => absurd hE (by decide), ?_⟩
      refine e_end (by kernel_rfl) ?_
      refine blk_normal ?_
      refine then_normal ?_
      refine sr ?_
      refine o1 hr (pA B0 0) fun a hr => ?_
      refine ldm (wn rfl) hr (.agg #[vI p0.Actor, vI p1.Kind, vI p1.Addr, vI p1.A, vI p1.B, vB ((at_ p0.Held p1.Addr.toNat) == p1.A)]) (cs := [vI p0.Actor, vI p1.Kind, vI p1.Addr, vI p1.A, vI p1.B, vB ((at_ p0.Held p1.Addr.toNat) == p1.A)]) ((h.pick 2).held 0 rfl) fun a hr => ?_
      have hn51 := h.row_n
      replace h : Fit z (sepL (ro2 ca1 cc2 (p0.Held.set p1.Addr.toNat p1.B) :: pts b34 (.cells #[vI 0, vB ((at_ p0.Held p1.Addr.toNat) == p1.A), vI 0] 39) :: pts b33 (.cells #[vI p0.Actor, vI p1.Kind, vI p1.Addr, vI p1.A, vI p1.B, vB ((at_ p0.Held p1.Addr.toNat) == p1.A)] 90) :: pts B0 (.cells #[vI p0.Most, .slice ca1 (p0.Held.set p1.Addr.toNat p1.B).length cc2, vB p0.On, vI p0.Actor, .slice ca3 p0.Book.length cc4] 62) :: ro90 ca3 cc4 p0.Book :: ob57 b5 p1 :: pts b6 (.cells #[vI 0, vB false, vI 0] 39) :: L)) w := (congrArg (fun q_ : Nat => Fit z (sepL (rowOf 2 1 encZ_i64 (.slice ca1 q_ cc2) (p0.Held.set p1.Addr.toNat p1.B) :: pts b34 (.cells #[vI 0, vB ((at_ p0.Held p1.Addr.toNat) == p1.A), vI 0] 39) :: pts b33 (.cells #[vI p0.Actor, vI p1.Kind, vI p1.Addr, vI p1.A, vI p1.B, vB ((at_ p0.Held p1.Addr.toNat) == p1.A)] 90) :: pts B0 (.cells #[vI p0.Most, .slice ca1 q_ cc2, vB p0.On, vI p0.Actor, .slice ca3 p0.Book.length cc4] 62) :: ro90 ca3 cc4 p0.Book :: ob57 b5 p1 :: pts b6 (.cells #[vI 0, vB false, vI 0] 39) :: L)) w) h.row_n).mp h
      obtain ⟨S53, e54, H⟩ := bd1 H
      replace h : Fit z (sepL (pts B0 (.cells #[vI p0.Most, .slice ca1 (p0.Held.set p1.Addr.toNat p1.B).length cc2, vB p0.On, vI p0.Actor, .slice ca3 p0.Book.length cc4] 62) :: ro2 ca1 cc2 (p0.Held.set p1.Addr.toNat p1.B) :: ro90 ca3 cc4 p0.Book :: pts b34 (.cells #[vI 0, vB ((at_ p0.Held p1.Addr.toNat) == p1.A), vI 0] 39) :: pts b33 (.cells #[vI p0.Actor, vI p1.Kind, vI p1.Addr, vI p1.A, vI p1.B, vB ((at_ p0.Held p1.Addr.toNat) == p1.A)] 90) :: ob57 b5 p1 :: pts b6 (.cells #[vI 0, vB false, vI 0] 39) :: L)) _ := h.sel 7 [3, 0, 4, 1, 2, 5, 6] (by kernel_rfl) (by kernel_rfl)
      have hc := plunderref2_Arena_note_ok (H := e54) (h := h)
      refine cl (wn rfl) hr hc ?_; clear hc h
      rintro _ w ⟨caq55, ccq56, caq57, ccq58, rfl, h⟩; refine ⟨_, rfl, fun a hr => ?_⟩
      refine ln ?_
      refine sr ?_
      refine ldm (wn rfl) hr (.agg #[vI 0, vB ((at_ p0.Held p1.Addr.toNat) == p1.A), vI 0]) (cs := [vI 0, vB ((at_ p0.Held p1.Addr.toNat) == p1.A), vI 0]) ((h.pick 3).held 0 rfl) fun a hr => ?_
      replace h : Fit z (sepL (pts b6 (.cells #[vI 0, vB false, vI 0] 39) :: ob62 B0 S53 caq55 ccq56 caq57 ccq58 :: ro2 caq55 ccq56 S53.Held :: ro90 caq57 ccq58 S53.Book :: pts b34 (.cells #[vI 0, vB ((at_ p0.Held p1.Addr.toNat) == p1.A), vI 0] 39) :: pts b33 (.cells #[vI p0.Actor, vI p1.Kind, vI p1.Addr, vI p1.A, vI p1.B, vB ((at_ p0.Held p1.Addr.toNat) == p1.A)] 90) :: ob57 b5 p1 :: L)) _ := h.sel 7 [6, 0, 1, 2, 3, 4, 5] (by kernel_rfl) (by kernel_rfl)
      refine stos (wn rfl) hr h 0 ([vI 0, vB ((at_ p0.Held p1.Addr.toNat) == p1.A), vI 0]) (#[vI 0, vB ((at_ p0.Held p1.Addr.toNat) == p1.A), vI 0]) fun w h => ?_
      refine wpList_nil ?_
      replace h : Fit z (sepL (pts b6 (.cells #[vI 0, vB ((at_ p0.Held p1.Addr.toNat) == p1.A), vI 0] 39) :: ob62 B0 S53 caq55 ccq56 caq57 ccq58 :: ro2 caq55 ccq56 S53.Held :: ro90 caq57 ccq58 S53.Book :: pts b34 (.cells #[vI 0, vB ((at_ p0.Held p1.Addr.toNat) == p1.A), vI 0] 39) :: pts b33 (.cells #[vI p0.Actor, vI p1.Kind, vI p1.Addr, vI p1.A, vI p1.B, vB ((at_ p0.Held p1.Addr.toNat) == p1.A)] 90) :: ob57 b5 p1 :: L)) _ := h
      refine then_normal ?_
      refine wp_ret ?_
      refine end_retC (cs := [vI 0, vB ((at_ p0.Held p1.Addr.toNat) == p1.A), vI 0]) rfl hr (by kernel_rfl) (by kernel_rfl) (by kernel_rfl) (h.held 0 rfl) ?_
      replace h : Fit z (sepL (ob62 B0 S53 caq55 ccq56 caq57 ccq58 :: ro2 caq55 ccq56 S53.Held :: ro90 caq57 ccq58 S53.Book :: L)) _ := h.sel 7 [1, 2, 3] (by kernel_rfl) (by kernel_rfl)
      obtain ⟨rfl, rfl⟩ := ej2 H
      exact ⟨caq55, ccq56, caq57, ccq58, rfl, h⟩
     ·
      replace H := ifF c51 H
      refine cond_ff hr (beq_eq_false_iff_ne.mpr c51) ?_
      refine wp_skip ?_
      refine blk_normal ?_
      refine then_normal ?_
      refine sr ?_
      refine o1 hr (pA B0 0) fun a hr => ?_
      refine ldm (wn rfl) hr (.agg #[vI p0.Actor, vI p1.Kind, vI p1.Addr, vI p1.A, vI p1.B, vB ((at_ p0.Held p1.Addr.toNat) == p1.A)]) (cs := [vI p0.Actor, vI p1.Kind, vI p1.Addr, vI p1.A, vI p1.B, vB ((at_ p0.Held p1.Addr.toNat) == p1.A)]) ((h.pick 1).held 0 rfl) fun a hr => ?_
      obtain ⟨S59, e60, H⟩ := bd1 H
      replace h : Fit z (sepL (ob62 B0 p0 ca1 cc2 ca3 cc4 :: ro2 ca1 cc2 p0.Held :: ro90 ca3 cc4 p0.Book :: pts b34 (.cells #[vI 0, vB ((at_ p0.Held p1.Addr.toNat) == p1.A), vI 0] 39) :: pts b33 (.cells #[vI p0.Actor, vI p1.Kind, vI p1.Addr, vI p1.A, vI p1.B, vB ((at_ p0.Held p1.Addr.toNat) == p1.A)] 90) :: ob57 b5 p1 :: pts b6 (.cells #[vI 0, vB false, vI 0] 39) :: L)) _ := h.sel 7 [2, 3, 4, 0, 1, 5, 6] (by kernel_rfl) (by kernel_rfl)
      have hc := plunderref2_Arena_note_ok (H := e60) (h := h)
      refine cl (wn rfl) hr hc ?_; clear hc h
      rintro _ w ⟨caq61, ccq62, caq63, ccq64, rfl, h⟩; refine ⟨_, rfl, fun a hr => ?_⟩
      refine ln ?_
      refine sr ?_
      refine ldm (wn rfl) hr (.agg #[vI 0, vB ((at_ p0.Held p1.Addr.toNat) == p1.A), vI 0]) (cs := [vI 0, vB ((at_ p0.Held p1.Addr.toNat) == p1.A), vI 0]) ((h.pick 3).held 0 rfl) fun a hr => ?_
      replace h : Fit z (sepL (pts b6 (.cells #[vI 0, vB false, vI 0] 39) :: ob62 B0 S59 caq61 ccq62 caq63 ccq64 :: ro2 caq61 ccq62 S59.Held :: ro90 caq63 ccq64 S59.Book :: pts b34 (.cells #[vI 0, vB ((at_ p0.Held p1.Addr.toNat) == p1.A), vI 0] 39) :: pts b33 (.cells #[vI p0.Actor, vI p1.Kind, vI p1.Addr, vI p1.A, vI p1.B, vB ((at_ p0.Held p1.Addr.toNat) == p1.A)] 90) :: ob57 b5 p1 :: L)) _ := h.sel 7 [6, 0, 1, 2, 3, 4, 5] (by kernel_rfl) (by kernel_rfl)
      refine stos (wn rfl) hr h 0 ([vI 0, vB ((at_ p0.Held p1.Addr.toNat) == p1.A), vI 0]) (#[vI 0, vB ((at_ p0.Held p1.Addr.toNat) == p1.A), vI 0]) fun w h => ?_
      refine wpList_nil ?_
      replace h : Fit z (sepL (pts b6 (.cells #[vI 0, vB ((at_ p0.Held p1.Addr.toNat) == p1.A), vI 0] 39) :: ob62 B0 S59 caq61 ccq62 caq63 ccq64 :: ro2 caq61 ccq62 S59.Held :: ro90 caq63 ccq64 S59.Book :: pts b34 (.cells #[vI 0, vB ((at_ p0.Held p1.Addr.toNat) == p1.A), vI 0] 39) :: pts b33 (.cells #[vI p0.Actor, vI p1.Kind, vI p1.Addr, vI p1.A, vI p1.B, vB ((at_ p0.Held p1.Addr.toNat) == p1.A)] 90) :: ob57 b5 p1 :: L)) _ := h
      refine then_normal ?_
      refine wp_ret ?_
      refine end_retC (cs := [vI 0, vB ((at_ p0.Held p1.Addr.toNat) == p1.A), vI 0]) rfl hr (by kernel_rfl) (by kernel_rfl) (by kernel_rfl) (h.held 0 rfl) ?_
      replace h : Fit z (sepL (ob62 B0 S59 caq61 ccq62 caq63 ccq64 :: ro2 caq61 ccq62 S59.Held :: ro90 caq63 ccq64 S59.Book :: L)) _ := h.sel 7 [1, 2, 3] (by kernel_rfl) (by kernel_rfl)
      obtain ⟨rfl, rfl⟩ := ej2 H
      exact ⟨caq61, ccq62, caq63, ccq64, rfl, h⟩
    ·
     replace H := ifF c50 H
     refine cond_ff hr (beq_eq_false_iff_ne.mpr c50) ?_
     refine sr ?_
     refine o1 hr (pA b5 3) fun a hr => ?_
     refine ld (wn rfl) hr (vI p1.A) ((h.pick 5).cell 3 rfl) fun a hr => ?_
     refine o1 hr (pA b33 3) fun a hr => ?_
     replace h : Fit z (sepL (pts b33 (.cells #[vI p0.Actor, vI p1.Kind, vI p1.Addr, vI 0, vI 0, vB true] 90) :: pts b34 (.cells #[vI 0, vB true, vI 0] 39) :: ob62 B0 p0 ca1 cc2 ca3 cc4 :: ro2 ca1 cc2 p0.Held :: ro90 ca3 cc4 p0.Book :: ob57 b5 p1 :: pts b6 (.cells #[vI 0, vB false, vI 0] 39) :: L)) _ := h.sel 7 [1, 0, 2, 3, 4, 5, 6] (by kernel_rfl) (by kernel_rfl)
     refine sto (wn rfl) hr h 3 (vI p1.A) fun w h => ?_
     refine wpList_nil ?_
     replace h : Fit z (sepL (pts b33 (.cells #[vI p0.Actor, vI p1.Kind, vI p1.Addr, vI p1.A, vI 0, vB true] 90) :: pts b34 (.cells #[vI 0, vB true, vI 0] 39) :: ob62 B0 p0 ca1 cc2 ca3 cc4 :: ro2 ca1 cc2 p0.Held :: ro90 ca3 cc4 p0.Book :: ob57 b5 p1 :: pts b6 (.cells #[vI 0, vB false, vI 0] 39) :: L)) _ := h
     refine then_normal ?_
     refine sr ?_
     refine oo [63, 64] [vI (at_ p0.Held p1.Addr.toNat), pA b5 3] hr fun a hr => ?_
     refine ld (wn rfl) hr (vI p1.A) ((h.pick 5).cell 3 rfl) fun a hr => ?_
     refine oo [66, 67] [vI (wi ((at_ p0.Held p1.Addr.toNat) + p1.A)), pA b33 4] hr fun a hr => ?_
     refine sto (wn rfl) hr h 4 (vI (wi ((at_ p0.Held p1.Addr.toNat) + p1.A))) fun w h => ?_
     refine wpList_nil ?_
     replace h : Fit z (sepL (pts b33 (.cells #[vI p0.Actor, vI p1.Kind, vI p1.Addr, vI p1.A, vI (wi ((at_ p0.Held p1.Addr.toNat) + p1.A)), vB true] 90) :: pts b34 (.cells #[vI 0, vB true, vI 0] 39) :: ob62 B0 p0 ca1 cc2 ca3 cc4 :: ro2 ca1 cc2 p0.Held :: ro90 ca3 cc4 p0.Book :: ob57 b5 p1 :: pts b6 (.cells #[vI 0, vB false, vI 0] 39) :: L)) _ := h
     refine then_normal ?_
     refine sr ?_
     refine oo [68, 69] [vI (at_ p0.Held p1.Addr.toNat), pA b5 3] hr fun a hr => ?_
     refine ld (wn rfl) hr (vI p1.A) ((h.pick 5).cell 3 rfl) fun a hr => ?_
     refine oo [71, 72] [vI (wi ((at_ p0.Held p1.Addr.toNat) + p1.A)), pA b34 0] hr fun a hr => ?_
     replace h : Fit z (sepL (pts b34 (.cells #[vI 0, vB true, vI 0] 39) :: pts b33 (.cells #[vI p0.Actor, vI p1.Kind, vI p1.Addr, vI p1.A, vI (wi ((at_ p0.Held p1.Addr.toNat) + p1.A)), vB true] 90) :: ob62 B0 p0 ca1 cc2 ca3 cc4 :: ro2 ca1 cc2 p0.Held :: ro90 ca3 cc4 p0.Book :: ob57 b5 p1 :: pts b6 (.cells #[vI 0, vB false, vI 0] 39) :: L)) _ := h.sel 7 [1, 0, 2, 3, 4, 5, 6] (by kernel_rfl) (by kernel_rfl)
     refine sto (wn rfl) hr h 0 (vI (wi ((at_ p0.Held p1.Addr.toNat) + p1.A))) fun w h => ?_
     refine wpList_nil ?_
     replace h : Fit z (sepL (pts b34 (.cells #[vI (wi ((at_ p0.Held p1.Addr.toNat) + p1.A)), vB true, vI 0] 39) :: pts b33 (.cells #[vI p0.Actor, vI p1.Kind, vI p1.Addr, vI p1.A, vI (wi ((at_ p0.Held p1.Addr.toNat) + p1.A)), vB true] 90) :: ob62 B0 p0 ca1 cc2 ca3 cc4 :: ro2 ca1 cc2 p0.Held :: ro90 ca3 cc4 p0.Book :: ob57 b5 p1 :: pts b6 (.cells #[vI 0, vB false, vI 0] 39) :: L)) _ := h
     refine then_normal ?_
     refine reg_E (fun w => heldC w B0 1 ([.slice ca1 p0.Held.length cc2]) ∧ heldC w b5 2 ([vI p1.Addr]) ∧ heldC w b5 3 ([vI p1.A]) ∧ True) [1, 2, 4, 7, 9] h (by kernel_rfl) ?_; intro w h
     change wpAnyE _ _ _ _ _ _ 12 (Array.replicate 12 false) a w
     have hgo : ∀ w w', CellsGo w w' → (heldC w B0 1 ([.slice ca1 p0.Held.length cc2]) ∧ heldC w b5 2 ([vI p1.Addr]) ∧ heldC w b5 3 ([vI p1.A]) ∧ True) → heldC w' B0 1 ([.slice ca1 p0.Held.length cc2]) ∧ heldC w' b5 2 ([vI p1.Addr]) ∧ heldC w' b5 3 ([vI p1.A]) ∧ True := fun w w' g hD => ⟨heldC_go _ _ _ _ _ g hD.1, heldC_go _ _ _ _ _ g hD.2.1, heldC_go _ _ _ _ _ g hD.2.2.1, trivial⟩
     refine evs 11 0 rfl (wn rfl) hr (pA B0 0) fun a hr => ?_
     refine evDs hgo ⟨⟨(h.pick 2).cell 1 rfl, trivial⟩, ⟨(h.pick 5).cell 2 rfl, trivial⟩, ⟨(h.pick 5).cell 3 rfl, trivial⟩, trivial⟩ 10 1 rfl (wn rfl) hr (pA B0 0) fun a hr => ?_
     refine evDs hgo ⟨⟨(h.pick 2).cell 1 rfl, trivial⟩, ⟨(h.pick 5).cell 2 rfl, trivial⟩, ⟨(h.pick 5).cell 3 rfl, trivial⟩, trivial⟩ 9 2 rfl (wn rfl) hr (pA B0 1) fun a hr => ?_
     refine evDs hgo ⟨⟨(h.pick 2).cell 1 rfl, trivial⟩, ⟨(h.pick 5).cell 2 rfl, trivial⟩, ⟨(h.pick 5).cell 3 rfl, trivial⟩, trivial⟩ 8 4 rfl (wn rfl) hr (pA b5 2) fun a hr => ?_
     refine evs 7 6 rfl (wn rfl) hr (vI (at_ p0.Held p1.Addr.toNat)) fun a hr => ?_
     refine evDs hgo ⟨⟨(h.pick 2).cell 1 rfl, trivial⟩, ⟨(h.pick 5).cell 2 rfl, trivial⟩, ⟨(h.pick 5).cell 3 rfl, trivial⟩, trivial⟩ 6 7 rfl (wn rfl) hr (pA b5 3) fun a hr => ?_
     refine el [1, 2, 4, 7, 9] (b := B0) (off := 1) (cs := [.slice ca1 p0.Held.length cc2]) (fun _ hk => ⟨hk, fun w hD => hD.1⟩) 5 3 rfl (by kernel_rfl) (wn rfl) hr (.slice ca1 p0.Held.length cc2) ⟨(h.pick 2).cell 1 rfl, trivial⟩ (fun w hc => rl rfl (by kernel_rfl) (by kernel_rfl) hc.1) fun a hr => ?_
     refine el [1, 2, 4, 7, 9] (b := b5) (off := 2) (cs := [vI p1.Addr]) (fun _ hk => ⟨hk, fun w hD => hD.2.1⟩) 4 5 rfl (by kernel_rfl) (wn rfl) hr (vI p1.Addr) ⟨(h.pick 5).cell 2 rfl, trivial⟩ (fun w hc => rl rfl (by kernel_rfl) (by kernel_rfl) hc.1) fun a hr => ?_
     refine el [1, 2, 4, 7, 9] (b := b5) (off := 3) (cs := [vI p1.A]) (fun _ hk => ⟨hk, fun w hD => hD.2.2.1⟩) 3 8 rfl (by kernel_rfl) (wn rfl) hr (vI p1.A) ⟨(h.pick 5).cell 3 rfl, trivial⟩ (fun w hc => rl rfl (by kernel_rfl) (by kernel_rfl) hc.1) fun a hr => ?_
     refine evDs hgo ⟨⟨(h.pick 2).cell 1 rfl, trivial⟩, ⟨(h.pick 5).cell 2 rfl, trivial⟩, ⟨(h.pick 5).cell 3 rfl, trivial⟩, trivial⟩ 2 9 rfl (wn rfl) hr (vI (wi ((at_ p0.Held p1.Addr.toNat) + p1.A))) fun a hr => ?_
     refine ev 1 10 rfl (by kernel_rfl) (wn rfl) hr (pA (blk ca1) (p1.Addr.toNat * 1)) (fun w => ri_row (k := .i64) (E := 2) rfl (by kernel_rfl) (by kernel_rfl) (by kernel_rfl) (by kernel_rfl) (h.pick 3) c32) fun a hr => ?_
     refine e_one (fuel := 0) (i := 11) (by kernel_rfl) rfl ?_
     replace h : Fit z (sepL (ro2 ca1 cc2 p0.Held :: pts b34 (.cells #[vI (wi ((at_ p0.Held p1.Addr.toNat) + p1.A)), vB true, vI 0] 39) :: pts b33 (.cells #[vI p0.Actor, vI p1.Kind, vI p1.Addr, vI p1.A, vI (wi ((at_ p0.Held p1.Addr.toNat) + p1.A)), vB true] 90) :: ob62 B0 p0 ca1 cc2 ca3 cc4 :: ro90 ca3 cc4 p0.Book :: ob57 b5 p1 :: pts b6 (.cells #[vI 0, vB false, vI 0] 39) :: L)) _ := h.sel 7 [3, 0, 1, 2, 4, 5, 6] (by kernel_rfl) (by kernel_rfl)
     refine stor (wn rfl) hr encZ_i64_ok h p1.Addr.toNat 0 (vI (wi ((at_ p0.Held p1.Addr.toNat) + p1.A))) (at_ p0.Held p1.Addr.toNat) (wi ((at_ p0.Held p1.Addr.toNat) + p1.A)) (at_ok c32) fun w h => ?_
     replace h : Fit z (sepL (rowOf 2 1 encZ_i64 (.slice ca1 p0.Held.length cc2) (p0.Held.set p1.Addr.toNat (wi ((at_ p0.Held p1.Addr.toNat) + p1.A))) :: pts b34 (.cells #[vI (wi ((at_ p0.Held p1.Addr.toNat) + p1.A)), vB true, vI 0] 39) :: pts b33 (.cells #[vI p0.Actor, vI p1.Kind, vI p1.Addr, vI p1.A, vI (wi ((at_ p0.Held p1.Addr.toNat) + p1.A)), vB true] 90) :: ob62 B0 p0 ca1 cc2 ca3 cc4 :: ro90 ca3 cc4 p0.Book :: ob57 b5 p1 :: pts b6 (.cells #[vI 0, vB false, vI 0] 39) :: L)) _ := h
     refine wpList_nil ?_; refine then_normal ?_
     refine ⟨fun hE => absurd hE (by decide), ?_⟩
     refine e_end (by kernel_rfl) ?_
     refine blk_normal ?_
     refine then_normal ?_
     refine sr ?_
     refine o1 hr (pA B0 0) fun a hr => ?_
     refine ldm (wn rfl) hr (.agg #[vI p0.Actor, vI p1.Kind, vI p1.Addr, vI p1.A, vI (wi ((at_ p0.Held p1.Addr.toNat) + p1.A)), vB true]) (cs := [vI p0.Actor, vI p1.Kind, vI p1.Addr, vI p1.A, vI (wi ((at_ p0.Held p1.Addr.toNat) + p1.A)), vB true]) ((h.pick 2).held 0 rfl) fun a hr => ?_
     have hn64 := h.row_n
     replace h : Fit z (sepL (ro2 ca1 cc2 (p0.Held.set p1.Addr.toNat (wi ((at_ p0.Held p1.Addr.toNat) + p1.A))) :: pts b34 (.cells #[vI (wi ((at_ p0.Held p1.Addr.toNat) + p1.A)), vB true, vI 0] 39) :: pts b33 (.cells #[vI p0.Actor, vI p1.Kind, vI p1.Addr, vI p1.A, vI (wi ((at_ p0.Held p1.Addr.toNat) + p1.A)), vB true] 90) :: pts B0 (.cells #[vI p0.Most, .slice ca1 (p0.Held.set p1.Addr.toNat (wi ((at_ p0.Held p1.Addr.toNat) + p1.A))).length cc2, vB p0.On, vI p0.Actor, .slice ca3 p0.Book.length cc4] 62) :: ro90 ca3 cc4 p0.Book :: ob57 b5 p1 :: pts b6 (.cells #[vI 0, vB false, vI 0] 39) :: L)) w := (congrArg (fun q_ : Nat => Fit z (sepL (rowOf 2 1 encZ_i64 (.slice ca1 q_ cc2) (p0.Held.set p1.Addr.toNat (wi ((at_ p0.Held p1.Addr.toNat) + p1.A))) :: pts b34 (.cells #[vI (wi ((at_ p0.Held p1.Addr.toNat) + p1.A)), vB true, vI 0] 39) :: pts b33 (.cells #[vI p0.Actor, vI p1.Kind, vI p1.Addr, vI p1.A, vI (wi ((at_ p0.Held p1.Addr.toNat) + p1.A)), vB true] 90) :: pts B0 (.cells #[vI p0.Most, .slice ca1 q_ cc2, vB p0.On, vI p0.Actor, .slice ca3 p0.Book.length cc4] 62) :: ro90 ca3 cc4 p0.Book :: ob57 b5 p1 :: pts b6 (.cells #[vI 0, vB false, vI 0] 39) :: L)) w) h.row_n).mp h
     obtain ⟨S66, e67, H⟩ := bd1 H
     replace h : Fit z (sepL (pts B0 (.cells #[vI p0.Most, .slice ca1 (p0.Held.set p1.Addr.toNat (wi ((at_ p0.Held p1.Addr.toNat) + p1.A))).length cc2, vB p0.On, vI p0.Actor, .slice ca3 p0.Book.length cc4] 62) :: ro2 ca1 cc2 (p0.Held.set p1.Addr.toNat (wi ((at_ p0.Held p1.Addr.toNat) + p1.A))) :: ro90 ca3 cc4 p0.Book :: pts b34 (.cells #[vI (wi ((at_ p0.Held p1.Addr.toNat) + p1.A)), vB true, vI 0] 39) :: pts b33 (.cells #[vI p0.Actor, vI p1.Kind, vI p1.Addr, vI p1.A, vI (wi ((at_ p0.Held p1.Addr.toNat) + p1.A)), vB true] 90) :: ob57 b5 p1 :: pts b6 (.cells #[vI 0, vB false, vI 0] 39) :: L)) _ := h.sel 7 [3, 0, 4, 1, 2, 5, 6] (by kernel_rfl) (by kernel_rfl)
     have hc := plunderref2_Arena_note_ok (H := e67) (h := h)
     refine cl (wn rfl) hr hc ?_; clear hc h
     rintro _ w ⟨caq68, ccq69, caq70, ccq71, rfl, h⟩; refine ⟨_, rfl, fun a hr => ?_⟩
     refine ln ?_
     refine sr ?_
     refine ldm (wn rfl) hr (.agg #[vI (wi ((at_ p0.Held p1.Addr.toNat) + p1.A)), vB true, vI 0]) (cs := [vI (wi ((at_ p0.Held p1.Addr.toNat) + p1.A)), vB true, vI 0]) ((h.pick 3).held 0 rfl) fun a hr => ?_
     replace h : Fit z (sepL (pts b6 (.cells #[vI 0, vB false, vI 0] 39) :: ob62 B0 S66 caq68 ccq69 caq70 ccq71 :: ro2 caq68 ccq69 S66.Held :: ro90 caq70 ccq71 S66.Book :: pts b34 (.cells #[vI (wi ((at_ p0.Held p1.Addr.toNat) + p1.A)), vB true, vI 0] 39) :: pts b33 (.cells #[vI p0.Actor, vI p1.Kind, vI p1.Addr, vI p1.A, vI (wi ((at_ p0.Held p1.Addr.toNat) + p1.A)), vB true] 90) :: ob57 b5 p1 :: L)) _ := h.sel 7 [6, 0, 1, 2, 3, 4, 5] (by kernel_rfl) (by kernel_rfl)
     refine stos (wn rfl) hr h 0 ([vI (wi ((at_ p0.Held p1.Addr.toNat) + p1.A)), vB true, vI 0]) (#[vI (wi ((at_ p0.Held p1.Addr.toNat) + p1.A)), vB true, vI 0]) fun w h => ?_
     refine wpList_nil ?_
     replace h : Fit z (sepL (pts b6 (.cells #[vI (wi ((at_ p0.Held p1.Addr.toNat) + p1.A)), vB true, vI 0] 39) :: ob62 B0 S66 caq68 ccq69 caq70 ccq71 :: ro2 caq68 ccq69 S66.Held :: ro90 caq70 ccq71 S66.Book :: pts b34 (.cells #[vI (wi ((at_ p0.Held p1.Addr.toNat) + p1.A)), vB true, vI 0] 39) :: pts b33 (.cells #[vI p0.Actor, vI p1.Kind, vI p1.Addr, vI p1.A, vI (wi ((at_ p0.Held p1.Addr.toNat) + p1.A)), vB true] 90) :: ob57 b5 p1 :: L)) _ := h
     refine then_normal ?_
     refine wp_ret ?_
     refine end_retC (cs := [vI (wi ((at_ p0.Held p1.Addr.toNat) + p1.A)), vB true, vI 0]) rfl hr (by kernel_rfl) (by kernel_rfl) (by kernel_rfl) (h.held 0 rfl) ?_
     replace h : Fit z (sepL (ob62 B0 S66 caq68 ccq69 caq70 ccq71 :: ro2 caq68 ccq69 S66.Held :: ro90 caq70 ccq71 S66.Book :: L)) _ := h.sel 7 [1, 2, 3] (by kernel_rfl) (by kernel_rfl)
     obtain ⟨rfl, rfl⟩ := ej2 H
     exact ⟨caq68, ccq69, caq70, ccq71, rfl, h⟩

/-- (*plunder/cells.ledger).Size -/
def cells_ledger_Size (p0 : T_cells_Shared) : Option (Int) :=
  some p0.ledger_size

set_option maxRecDepth 100000 in
set_option maxHeartbeats 4000000 in
theorem cells_ledger_Size_ok {z w : World} {L : List HProp} {p0 : T_cells_Shared} {B0 : Nat} {ca1 : Option Addr} {cc2 : Nat} {r0 : Int} (H : cells_ledger_Size p0 = some r0) (h : Fit z (sepL (ob110 B0 p0 ca1 cc2 :: ro107 ca1 cc2 p0.cell :: L)) w)  :
    Calls Try.prog 81 #[pA B0 0] w fun e w => e = .returned (vI r0) ∧ Fit z (sepL (ob110 B0 p0 ca1 cc2 :: ro107 ca1 cc2 p0.cell :: L)) w := by
 unfold cells_ledger_Size at H
 refine enter Try.func81 rfl 9 rfl rfl [(0, pA B0 0)] ⟨rfl, trivial⟩ ?_
 intro j a hr
 refine sr ?_
 refine o1 hr (vI 0) fun a hr => ?_
 refine ln ?_
 refine wp_seq ?_
 refine sr ?_
 refine oo [3, 4] [pA B0 0, vB false] hr fun a hr => ?_
 refine ln ?_
 refine cond_ff hr (b := false) rfl ?_
 refine wp_skip ?_
 refine then_normal ?_
 refine sr ?_
 refine oo [5, 6, 7] [pA B0 0, pA B0 0, pA B0 0] hr fun a hr => ?_
 refine ld (wn rfl) hr (vI p0.ledger_size) (h.cell 0 rfl) fun a hr => ?_
 refine o1 hr (vI p0.ledger_size) fun a hr => ?_
 refine ln ?_
 refine wp_ret ?_
 refine end_ret1 (v := vI p0.ledger_size) rfl hr (by kernel_rfl) ?_
 replace H := ej1 H; subst H
 exact ⟨rfl, h⟩

/-- (*plunder/cells.Shared).Size -/
def cells_Shared_Size (p0 : T_cells_Shared) : Option (Int) :=
  ob1 (cells_ledger_Size p0) (fun r3 => some r3)

set_option maxRecDepth 100000 in
set_option maxHeartbeats 4000000 in
theorem cells_Shared_Size_ok {z w : World} {L : List HProp} {p0 : T_cells_Shared} {B0 : Nat} {ca1 : Option Addr} {cc2 : Nat} {r0 : Int} (H : cells_Shared_Size p0 = some r0) (h : Fit z (sepL (ob110 B0 p0 ca1 cc2 :: ro107 ca1 cc2 p0.cell :: L)) w)  :
    Calls Try.prog 32 #[pA B0 0] w fun e w => e = .returned (vI r0) ∧ Fit z (sepL (ob110 B0 p0 ca1 cc2 :: ro107 ca1 cc2 p0.cell :: L)) w := by
 unfold cells_Shared_Size at H
 refine enter Try.func32 rfl 9 rfl rfl [(0, pA B0 0)] ⟨rfl, trivial⟩ ?_
 intro j a hr
 refine sr ?_
 refine o1 hr (vI 0) fun a hr => ?_
 refine ln ?_
 refine wp_seq ?_
 refine sr ?_
 refine oo [3, 4] [pA B0 0, vB false] hr fun a hr => ?_
 refine ln ?_
 refine cond_ff hr (b := false) rfl ?_
 refine wp_skip ?_
 refine then_normal ?_
 refine sr ?_
 obtain ⟨r3, e4, H⟩ := bd1 H
 refine oo [5, 6, 7] [pA B0 0, pA B0 0, pA B0 0] hr fun a hr => ?_
 have hc := cells_ledger_Size_ok (H := e4) (h := h)
 refine cl (wn rfl) hr hc ?_; clear hc h
 rintro _ w ⟨rfl, h⟩; refine ⟨_, rfl, fun a hr => ?_⟩
 refine o1 hr (vI r3) fun a hr => ?_
 refine ln ?_
 refine wp_ret ?_
 refine end_ret1 (v := vI r3) rfl hr (by kernel_rfl) ?_
 replace H := ej1 H; subst H
 exact ⟨rfl, h⟩

/-- (*plunder/cells.ledger).Mark -/
def cells_ledger_Mark (p0 : T_cells_Shared) : Option (Int) :=
  some p0.ledger_mark

set_option maxRecDepth 100000 in
set_option maxHeartbeats 4000000 in
theorem cells_ledger_Mark_ok {z w : World} {L : List HProp} {p0 : T_cells_Shared} {B0 : Nat} {ca1 : Option Addr} {cc2 : Nat} {r0 : Int} (H : cells_ledger_Mark p0 = some r0) (h : Fit z (sepL (ob110 B0 p0 ca1 cc2 :: ro107 ca1 cc2 p0.cell :: L)) w)  :
    Calls Try.prog 84 #[pA B0 0] w fun e w => e = .returned (vI r0) ∧ Fit z (sepL (ob110 B0 p0 ca1 cc2 :: ro107 ca1 cc2 p0.cell :: L)) w := by
 unfold cells_ledger_Mark at H
 refine enter Try.func84 rfl 9 rfl rfl [(0, pA B0 0)] ⟨rfl, trivial⟩ ?_
 intro j a hr
 refine sr ?_
 refine o1 hr (vI 0) fun a hr => ?_
 refine ln ?_
 refine wp_seq ?_
 refine sr ?_
 refine oo [3, 4] [pA B0 0, vB false] hr fun a hr => ?_
 refine ln ?_
 refine cond_ff hr (b := false) rfl ?_
 refine wp_skip ?_
 refine then_normal ?_
 refine sr ?_
 refine oo [5, 6, 7] [pA B0 0, pA B0 0, pA B0 1] hr fun a hr => ?_
 refine ld (wn rfl) hr (vI p0.ledger_mark) (h.cell 1 rfl) fun a hr => ?_
 refine o1 hr (vI p0.ledger_mark) fun a hr => ?_
 refine ln ?_
 refine wp_ret ?_
 refine end_ret1 (v := vI p0.ledger_mark) rfl hr (by kernel_rfl) ?_
 replace H := ej1 H; subst H
 exact ⟨rfl, h⟩

/-- (*plunder/cells.Shared).Mark -/
def cells_Shared_Mark (p0 : T_cells_Shared) : Option (Int × T_cells_Shared) :=
  if p0.lock_mu_state = 0 then ob1 (cells_ledger_Mark ({ p0 with lock_mu_state := 1 })) (fun r4 => some (r4, { p0 with lock_mu_state := 0 })) else none

set_option maxRecDepth 100000 in
set_option maxHeartbeats 4000000 in
theorem cells_Shared_Mark_ok {z w : World} {L : List HProp} {p0 : T_cells_Shared} {B0 : Nat} {ca1 : Option Addr} {cc2 : Nat} {r0 : Int} {q0 : T_cells_Shared} (H : cells_Shared_Mark p0 = some (r0, q0)) (h : Fit z (sepL (ob110 B0 p0 ca1 cc2 :: ro107 ca1 cc2 p0.cell :: L)) w)  :
    Calls Try.prog 33 #[pA B0 0] w fun e w => ∃ caq0_1 : Option Addr, ∃ ccq0_2 : Nat, e = .returned (vI r0) ∧ Fit z (sepL (ob110 B0 q0 caq0_1 ccq0_2 :: ro107 caq0_1 ccq0_2 q0.cell :: L)) w := by
 unfold cells_Shared_Mark at H
 refine enterD Try.func33 rfl 16 rfl rfl [(0, pA B0 0)] ⟨rfl, trivial⟩ ?_
 intro j a hr
 refine sr ?_
 refine o1 hr (vI 0) fun a hr => ?_
 refine ln ?_
 refine wp_seq ?_
 refine sr ?_
 refine oo [3, 4] [pA B0 0, vB false] hr fun a hr => ?_
 refine ln ?_
 refine cond_ff hr (b := false) rfl ?_
 refine wp_skip ?_
 refine then_normal ?_
 refine sr ?_
 obtain ⟨c3, H⟩ := gd H
 refine oo [5, 6, 7] [pA B0 0, pA B0 0, pA B0 2] hr fun a hr => ?_
 refine op_lock muLib (wn rfl) rfl rfl hr h (i := 2) (cs' := #[vI p0.ledger_size, vI p0.ledger_mark, .int .i32 1, .int .u32 p0.lock_mu_sema, vI p0.given_v, .slice ca1 p0.cell.length cc2]) (congrArg (fun q => some (Value.int .i32 q)) c3) rfl (by kernel_rfl) fun w a h hr => ?_
 refine wpList_nil ?_
 replace h : Fit z (sepL (pts B0 (.cells #[vI p0.ledger_size, vI p0.ledger_mark, .int .i32 1, .int .u32 p0.lock_mu_sema, vI p0.given_v, .slice ca1 p0.cell.length cc2] 110) :: ro107 ca1 cc2 p0.cell :: L)) _ := h
 refine then_normal ?_
 refine sr ?_
 refine oo [9, 10, 11] [pA B0 0, pA B0 0, pA B0 2] hr fun a hr => ?_
 refine op_defer (wn rfl) rfl hr (q := { target := .fn (.func 83) #[], args := #[pA B0 2] }) (by kernel_rfl) fun a hr => ?_
 refine ln ?_
 refine sr ?_
 obtain ⟨r4, e5, H⟩ := bd1 H
 refine oo [12, 13, 14] [pA B0 0, pA B0 0, pA B0 0] hr fun a hr => ?_
 have hc := cells_ledger_Mark_ok (H := e5) (h := h)
 refine cl (wn rfl) hr hc ?_; clear hc h
 rintro _ w ⟨rfl, h⟩; refine ⟨_, rfl, fun a hr => ?_⟩
 refine o1 hr (vI r4) fun a hr => ?_
 refine ln ?_
 refine wp_ret ?_
 refine endD_unlock muLib hr (fun w => res1 (v := vI r4) rfl hr (by kernel_rfl) w) (fun _ => by kernel_rfl) h (i := 2) (cs' := #[vI p0.ledger_size, vI p0.ledger_mark, .int .i32 0, .int .u32 p0.lock_mu_sema, vI p0.given_v, .slice ca1 p0.cell.length cc2]) rfl rfl fun w h => ?_
 obtain ⟨rfl, rfl⟩ := ej2 H
 exact ⟨ca1, cc2, rfl, h⟩

def plunderlaw2_holds_l1 (K : Nat) (p0 : T_cells_Shared) (p1 : List Int) : Nat → Int → Option ((Unit) ⊕ (Bool × T_cells_Shared))
  | 0, _ => none
  | k1 + 1, g5 => (if g5 < ((p1.length : Nat) : Int) then ob2 (cells_Shared_Load p0 g5) (fun r7 r8 => (if r8 = 0 then if inr_ g5 p1.length then (if r7 = (at_ p1 g5.toNat) then (plunderlaw2_holds_l1 K p0 p1 k1 (wi (g5 + 1))) else some (.inr (false, p0))) else none else some (.inr (false, p0)))) else some (.inl ()))
/-- plunder/plunderlaw2.holds -/
def plunderlaw2_holds (K : Nat) (p0 : T_cells_Shared) (p1 : List Int) : Option (Bool × T_cells_Shared) :=
  jn0 ((plunderlaw2_holds_l1 K p0 p1 K 0)) (ob2 (cells_Shared_Load p0 ((p1.length : Nat) : Int)) (fun r13 r14 => (if r14 = 20 then ob2 (cells_Shared_Mark p0) (fun r17 S18 => some (r17 == ((p1.length : Nat) : Int), S18)) else some (false, p0))))

set_option maxRecDepth 100000 in
set_option maxHeartbeats 4000000 in
theorem plunderlaw2_holds_ok {z w : World} {L : List HProp} {K : Nat} {p0 : T_cells_Shared} {p1 : List Int} {B0 : Nat} {ca1 : Option Addr} {cc2 : Nat} {va1 : Option Addr} {vc1 : Nat} {r0 : Bool} {q0 : T_cells_Shared} (H : plunderlaw2_holds K p0 p1 = some (r0, q0)) (h : Fit z (sepL (ob110 B0 p0 ca1 cc2 :: ro107 ca1 cc2 p0.cell :: L)) w) (hv1 : RdRow L 1 encZ_i64 va1 p1) :
    Calls Try.prog 34 #[pA B0 0, .slice va1 p1.length vc1] w fun e w => ∃ caq0_1 : Option Addr, ∃ ccq0_2 : Nat, e = .returned (vB r0) ∧ Fit z (sepL (ob110 B0 q0 caq0_1 ccq0_2 :: ro107 caq0_1 ccq0_2 q0.cell :: L)) w := by
 unfold plunderlaw2_holds at H
 refine enter Try.func34 rfl 48 rfl rfl [(0, pA B0 0), (1, .slice va1 p1.length vc1)] ⟨rfl, rfl, trivial⟩ ?_
 intro j a hr
 refine sr ?_
 refine o1 hr (vB false) fun a hr => ?_
 refine ln ?_
 obtain ⟨o4, H, hK3⟩ := jd0 H
 refine cut_rule (β := Unit) (fun _ a w => .inl () = o4 ∧ ∃ j, Rep 48 (lk [(0, pA B0 0), (1, .slice va1 p1.length vc1)] j) a ∧ Fit z (sepL (ob110 B0 p0 ca1 cc2 :: ro107 ca1 cc2 p0.cell :: L)) w) ?_ ?_
 ·
  refine sr ?_
  refine o1 hr (vI 0) fun a hr => ?_
  refine ln ?_
  refine wp_block ?_
  replace hr := hr.fold2 [(0, pA B0 0), (1, .slice va1 p1.length vc1), (5, vI 0)] (by kernel_rfl); obtain ⟨j, hr⟩ := hr
  refine loop_rule (β := Nat) id (fun m a w => ∃ g5 : Int, (plunderlaw2_holds_l1 K p0 p1 m g5) = some o4 ∧ ∃ j, Rep 48 (lk [(0, pA B0 0), (1, .slice va1 p1.length vc1), (5, vI g5)] j) a ∧ Fit z (sepL (ob110 B0 p0 ca1 cc2 :: ro107 ca1 cc2 p0.cell :: L)) w) K ⟨0, H, j, hr, h⟩ ?_
  clear h hr a H; rintro k1 a w ⟨g5, H, j, hr, h⟩
  cases k1 with
  | zero => exact absurd H (by simp [plunderlaw2_holds_l1])
  | succ k1 =>
   rw [plunderlaw2_holds_l1] at H
   refine wp_seq ?_
   refine sr ?_
   refine oo [10, 11, 12, 13] [vI g5, .slice va1 p1.length vc1, vI ((p1.length : Nat) : Int), vB (decide (g5 < ((p1.length : Nat) : Int)))] hr fun a hr => ?_
   refine ln ?_
   by_cases c6 : g5 < ((p1.length : Nat) : Int)
   ·
    replace H := ifT c6 H
    refine cond_tt hr (decide_eq_true c6) ?_
    refine wp_skip ?_
    refine then_normal ?_
    refine wp_seq ?_
    refine wp_block ?_
    refine sr ?_
    obtain ⟨r7, r8, e9, H⟩ := bd2 H
    refine oo [17, 18] [pA B0 0, vI g5] hr fun a hr => ?_
    have hc := cells_Shared_Load_ok (H := e9) (h := h)
    refine cl (wn rfl) hr hc ?_; clear hc h
    rintro _ w ⟨rfl, h⟩; refine ⟨_, rfl, fun a hr => ?_⟩
    refine oo [16, 20, 21, 6, 7] [.tuple #[vI r7, vI r8], vI r7, vI r8, vI r7, vI r8] hr fun a hr => ?_
    refine ln ?_
    refine sr ?_
    refine oo [22, 23, 24] [vI r8, vB (r8 != 0), vB (r8 != 0)] hr fun a hr => ?_
    by_cases c10 : r8 = 0
    ·
     replace H := ifT c10 H
     refine opv (wgt hr (bne_eq_false_iff_eq.mpr c10)) hr (vI r7) (by kernel_rfl) fun a hr => ?_
     refine opv (wgt hr (bne_eq_false_iff_eq.mpr c10)) hr (.slice va1 p1.length vc1) (by kernel_rfl) fun a hr => ?_
     refine opv (wgt hr (bne_eq_false_iff_eq.mpr c10)) hr (vI g5) (by kernel_rfl) fun a hr => ?_
     obtain ⟨c11, H⟩ := gd H
     refine opv (wgt hr (bne_eq_false_iff_eq.mpr c10)) hr (pA (blk va1) (offs va1 + g5.toNat * 1)) (ri_rd (k := .i64) (E := 2) (cc := vc1) rfl (by kernel_rfl) (by kernel_rfl) rfl (by kernel_rfl) (by kernel_rfl) hv1 c11) fun a hr => ?_
     refine ld (wgt hr (bne_eq_false_iff_eq.mpr c10)) hr (vI (at_ p1 g5.toNat)) (hv1.cell c11 (h.dn 2) 0 rfl) fun a hr => ?_
     refine opv (wgt hr (bne_eq_false_iff_eq.mpr c10)) hr (vB (r7 != (at_ p1 g5.toNat))) (by kernel_rfl) fun a hr => ?_
     refine opv (wn rfl) hr (vB (r7 != (at_ p1 g5.toNat))) (rp_f (b := (r8 != 0)) rfl (by kernel_rfl) (bne_eq_false_iff_eq.mpr c10) (by kernel_rfl)) fun a hr => ?_
     refine ln ?_
     by_cases c12 : r7 = (at_ p1 g5.toNat)
     ·
      replace H := ifT c12 H
      refine cond_ff hr (bne_eq_false_iff_eq.mpr c12) ?_
      refine wp_skip ?_
      refine blk_normal ?_
      refine then_normal ?_
      refine wp_region_lit ?_
      refine oo [14, 15, 5] [vI g5, vI (wi (g5 + 1)), vI (wi (g5 + 1))] hr fun a hr => ?_
      refine ln ?_
      replace hr := hr.fold2 [(0, pA B0 0), (1, .slice va1 p1.length vc1), (5, vI (wi (g5 + 1)))] (by kernel_rfl); obtain ⟨j, hr⟩ := hr
      exact ⟨_, ⟨(wi (g5 + 1)), H, j, hr, h⟩, Nat.lt_succ_self _⟩
     ·
      replace H := ifF c12 H
      refine cond_tt hr (bne_iff_ne.mpr c12) ?_
      refine sr ?_
      refine o1 hr (vB false) fun a hr => ?_
      refine ln ?_
      refine wp_ret ?_
      refine blk_ret ?_
      refine then_ret ?_
      refine then_ret ?_
      refine blk_ret ?_
      refine then_ret ?_
      refine end_ret1 (v := vB false) rfl hr (by kernel_rfl) ?_
      replace H := jx0 H hK3
      obtain ⟨rfl, rfl⟩ := ej2 H
      exact ⟨ca1, cc2, rfl, h⟩
    ·
     replace H := ifF c10 H
     refine offg (wgt hr (bne_iff_ne.mpr c10)) hr fun a hr => ?_
     refine offg (wgt hr (bne_iff_ne.mpr c10)) hr fun a hr => ?_
     refine offg (wgt hr (bne_iff_ne.mpr c10)) hr fun a hr => ?_
     refine offg (wgt hr (bne_iff_ne.mpr c10)) hr fun a hr => ?_
     refine offg (wgt hr (bne_iff_ne.mpr c10)) hr fun a hr => ?_
     refine offg (wgt hr (bne_iff_ne.mpr c10)) hr fun a hr => ?_
     refine opv (wn rfl) hr (vB true) (rp_t (b := (r8 != 0)) rfl (by kernel_rfl) (bne_iff_ne.mpr c10) (by kernel_rfl)) fun a hr => ?_
     refine ln ?_
     refine cond_tt hr (b := true) rfl ?_
     refine sr ?_
     refine o1 hr (vB false) fun a hr => ?_
     refine ln ?_
     refine wp_ret ?_
     refine blk_ret ?_
     refine then_ret ?_
     refine then_ret ?_
     refine blk_ret ?_
     refine then_ret ?_
     refine end_ret1 (v := vB false) rfl hr (by kernel_rfl) ?_
     replace H := jx0 H hK3
     obtain ⟨rfl, rfl⟩ := ej2 H
     exact ⟨ca1, cc2, rfl, h⟩
   ·
    replace H := ifF c6 H
    refine cond_ff hr (decide_eq_false c6) ?_
    refine wp_exit ?_
    refine then_exit ?_
    refine then_exit ?_
    refine blk_here ?_
    refine then_normal ?_
    replace hr := hr.fold2 [(0, pA B0 0), (1, .slice va1 p1.length vc1)] (by kernel_rfl); obtain ⟨j, hr⟩ := hr
    exact ⟨(), sinj H, j, hr, h⟩
 clear h hr a; rintro _ a w ⟨rfl, j, hr, h⟩
 replace H := jk0 hK3
 refine sr ?_
 obtain ⟨r13, r14, e15, H⟩ := bd2 H
 refine oo [33, 34, 35] [pA B0 0, .slice va1 p1.length vc1, vI ((p1.length : Nat) : Int)] hr fun a hr => ?_
 have hc := cells_Shared_Load_ok (H := e15) (h := h)
 refine cl (wn rfl) hr hc ?_; clear hc h
 rintro _ w ⟨rfl, h⟩; refine ⟨_, rfl, fun a hr => ?_⟩
 refine oo [32, 37, 38, 8, 9] [.tuple #[vI r13, vI r14], vI r13, vI r14, vI r13, vI r14] hr fun a hr => ?_
 refine ln ?_
 refine sr ?_
 refine oo [39, 40, 41] [vI r14, vB (r14 == 20), vB (r14 == 20)] hr fun a hr => ?_
 by_cases c16 : r14 = 20
 ·
  replace H := ifT c16 H
  refine opv (wgt hr (beq_iff_eq.mpr c16)) hr (pA B0 0) (by kernel_rfl) fun a hr => ?_
  obtain ⟨r17, S18, e19, H⟩ := bd2 H
  have hc := cells_Shared_Mark_ok (H := e19) (h := h)
  refine cl (wgt hr (beq_iff_eq.mpr c16)) hr hc ?_; clear hc h
  rintro _ w ⟨caq20, ccq21, rfl, h⟩; refine ⟨_, rfl, fun a hr => ?_⟩
  refine opv (wgt hr (beq_iff_eq.mpr c16)) hr (.slice va1 p1.length vc1) (by kernel_rfl) fun a hr => ?_
  refine opv (wgt hr (beq_iff_eq.mpr c16)) hr (vI ((p1.length : Nat) : Int)) (by kernel_rfl) fun a hr => ?_
  refine opv (wgt hr (beq_iff_eq.mpr c16)) hr (vB (r17 == ((p1.length : Nat) : Int))) (by kernel_rfl) fun a hr => ?_
  refine opv (wn rfl) hr (vB (r17 == ((p1.length : Nat) : Int))) (rp_t (b := (r14 == 20)) rfl (by kernel_rfl) (beq_iff_eq.mpr c16) (by kernel_rfl)) fun a hr => ?_
  refine o1 hr (vB (r17 == ((p1.length : Nat) : Int))) fun a hr => ?_
  refine ln ?_
  refine wp_ret ?_
  refine end_ret1 (v := vB (r17 == ((p1.length : Nat) : Int))) rfl hr (by kernel_rfl) ?_
  obtain ⟨rfl, rfl⟩ := ej2 H
  exact ⟨caq20, ccq21, rfl, h⟩
 ·
  replace H := ifF c16 H
  refine offg (wgt hr (beq_eq_false_iff_ne.mpr c16)) hr fun a hr => ?_
  refine offg (wgt hr (beq_eq_false_iff_ne.mpr c16)) hr fun a hr => ?_
  refine offg (wgt hr (beq_eq_false_iff_ne.mpr c16)) hr fun a hr => ?_
  refine offg (wgt hr (beq_eq_false_iff_ne.mpr c16)) hr fun a hr => ?_
  refine offg (wgt hr (beq_eq_false_iff_ne.mpr c16)) hr fun a hr => ?_
  refine opv (wn rfl) hr (vB false) (rp_f (b := (r14 == 20)) rfl (by kernel_rfl) (beq_eq_false_iff_ne.mpr c16) (by kernel_rfl)) fun a hr => ?_
  refine o1 hr (vB false) fun a hr => ?_
  refine ln ?_
  refine wp_ret ?_
  refine end_ret1 (v := vB false) rfl hr (by kernel_rfl) ?_
  obtain ⟨rfl, rfl⟩ := ej2 H
  exact ⟨ca1, cc2, rfl, h⟩

/-- (*plunder/cells.Shared).outside -/
def cells_Shared_outside_nil (p1 : Int) : Option (Bool) :=
  some true

set_option maxRecDepth 100000 in
set_option maxHeartbeats 4000000 in
theorem cells_Shared_outside_nil_ok {z w : World} {L : List HProp} {p1 : Int} {r0 : Bool} (H : cells_Shared_outside_nil p1 = some r0) (h : Fit z (sepL (L)) w)  :
    Calls Try.prog 103 #[pN, vI p1] w fun e w => e = .returned (vB r0) ∧ Fit z (sepL (L)) w := by
 unfold cells_Shared_outside_nil at H
 refine enter Try.func103 rfl 19 rfl rfl [(0, pN), (1, vI p1)] ⟨rfl, rfl, trivial⟩ ?_
 intro j a hr
 refine sr ?_
 refine o1 hr (vB false) fun a hr => ?_
 refine ln ?_
 refine sr ?_
 refine oo [5, 6, 7] [pN, vB true, vB true] hr fun a hr => ?_
 refine offg (wgt hr (c := true) rfl) hr fun a hr => ?_
 refine offg (wgt hr (c := true) rfl) hr fun a hr => ?_
 refine oo [10, 11] [vB true, vB true] hr fun a hr => ?_
 refine offg (wgt hr (c := true) rfl) hr fun a hr => ?_
 refine offg (wgt hr (c := true) rfl) hr fun a hr => ?_
 refine offg (wgt hr (c := true) rfl) hr fun a hr => ?_
 refine offg (wgt hr (c := true) rfl) hr fun a hr => ?_
 refine offg (wgt hr (c := true) rfl) hr fun a hr => ?_
 refine offg (wgt hr (c := true) rfl) hr fun a hr => ?_
 refine oo [18, 4] [vB true, vB true] hr fun a hr => ?_
 refine ln ?_
 refine wp_ret ?_
 refine end_ret1 (v := vB true) rfl hr (by kernel_rfl) ?_
 replace H := ej1 H; subst H
 exact ⟨rfl, h⟩

/-- (*plunder/cells.Shared).Load -/
def cells_Shared_Load_nil (p1 : Int) : Option (Int × Int) :=
  ob1 (cells_Shared_outside_nil p1) (fun r1 => (if r1 = true then some (0, 20) else none))

set_option maxRecDepth 100000 in
set_option maxHeartbeats 4000000 in
theorem cells_Shared_Load_nil_ok {z w : World} {L : List HProp} {p1 : Int} {r0 : Int} {r1 : Int} (H : cells_Shared_Load_nil p1 = some (r0, r1)) (h : Fit z (sepL (L)) w)  :
    Calls Try.prog 73 #[pN, vI p1] w fun e w => e = .returned (.tuple #[vI r0, vI r1]) ∧ Fit z (sepL (L)) w := by
 unfold cells_Shared_Load_nil at H
 refine enter Try.func73 rfl 16 rfl rfl [(0, pN), (1, vI p1)] ⟨rfl, rfl, trivial⟩ ?_
 intro j a hr
 refine sr ?_
 refine oo [4, 5] [vI 0, vI 0] hr fun a hr => ?_
 refine ln ?_
 refine wp_seq ?_
 refine sr ?_
 obtain ⟨r1, e2, H⟩ := bd1 H
 refine oo [6, 7] [pN, vI p1] hr fun a hr => ?_
 have hc := cells_Shared_outside_nil_ok (H := e2) (h := h)
 refine cl (wn rfl) hr hc ?_; clear hc h
 rintro _ w ⟨rfl, h⟩; refine ⟨_, rfl, fun a hr => ?_⟩
 refine ln ?_
 by_cases c3 : r1 = true
 ·
  replace H := ifT c3 H
  refine cond_tt hr (c3) ?_
  refine sr ?_
  refine oo [4, 5] [vI 0, vI 20] hr fun a hr => ?_
  refine ln ?_
  refine wp_ret ?_
  refine then_ret ?_
  refine end_ret2 (v := vI 0) (v' := vI 20) rfl hr (by kernel_rfl) (by kernel_rfl) ?_
  obtain ⟨rfl, rfl⟩ := ej2 H
  exact ⟨rfl, h⟩
 ·
  replace H := ifF c3 H
  refine cond_ff hr (bF c3) ?_
  refine wp_skip ?_
  refine then_normal ?_
  refine sr ?_
  cases H

/-- (*plunder/cells.Shared).Store -/
def cells_Shared_Store_nil (p1 : Int) (p2 : Int) : Option (Int) :=
  ob1 (cells_Shared_outside_nil p1) (fun r1 => (if r1 = true then some 20 else none))

set_option maxRecDepth 100000 in
set_option maxHeartbeats 4000000 in
theorem cells_Shared_Store_nil_ok {z w : World} {L : List HProp} {p1 : Int} {p2 : Int} {r0 : Int} (H : cells_Shared_Store_nil p1 p2 = some r0) (h : Fit z (sepL (L)) w)  :
    Calls Try.prog 74 #[pN, vI p1, vI p2] w fun e w => e = .returned (vI r0) ∧ Fit z (sepL (L)) w := by
 unfold cells_Shared_Store_nil at H
 refine enter Try.func74 rfl 18 rfl rfl [(0, pN), (1, vI p1), (2, vI p2)] ⟨rfl, rfl, rfl, trivial⟩ ?_
 intro j a hr
 refine sr ?_
 refine o1 hr (vI 0) fun a hr => ?_
 refine ln ?_
 refine wp_seq ?_
 refine sr ?_
 obtain ⟨r1, e2, H⟩ := bd1 H
 refine oo [7, 8] [pN, vI p1] hr fun a hr => ?_
 have hc := cells_Shared_outside_nil_ok (H := e2) (h := h)
 refine cl (wn rfl) hr hc ?_; clear hc h
 rintro _ w ⟨rfl, h⟩; refine ⟨_, rfl, fun a hr => ?_⟩
 refine ln ?_
 by_cases c3 : r1 = true
 ·
  replace H := ifT c3 H
  refine cond_tt hr (c3) ?_
  refine sr ?_
  refine o1 hr (vI 20) fun a hr => ?_
  refine ln ?_
  refine wp_ret ?_
  refine then_ret ?_
  refine end_ret1 (v := vI 20) rfl hr (by kernel_rfl) ?_
  replace H := ej1 H; subst H
  exact ⟨rfl, h⟩
 ·
  replace H := ifF c3 H
  refine cond_ff hr (bF c3) ?_
  refine wp_skip ?_
  refine then_normal ?_
  refine sr ?_
  cases H

/-- (*plunder/cells.Shared).CAS -/
def cells_Shared_CAS_nil (p1 : Int) (p2 : Int) (p3 : Int) : Option (Bool × Int) :=
  ob1 (cells_Shared_outside_nil p1) (fun r1 => (if r1 = true then some (false, 20) else none))

set_option maxRecDepth 100000 in
set_option maxHeartbeats 4000000 in
theorem cells_Shared_CAS_nil_ok {z w : World} {L : List HProp} {p1 : Int} {p2 : Int} {p3 : Int} {r0 : Bool} {r1 : Int} (H : cells_Shared_CAS_nil p1 p2 p3 = some (r0, r1)) (h : Fit z (sepL (L)) w)  :
    Calls Try.prog 75 #[pN, vI p1, vI p2, vI p3] w fun e w => e = .returned (.tuple #[vB r0, vI r1]) ∧ Fit z (sepL (L)) w := by
 unfold cells_Shared_CAS_nil at H
 refine enter Try.func75 rfl 22 rfl rfl [(0, pN), (1, vI p1), (2, vI p2), (3, vI p3)] ⟨rfl, rfl, rfl, rfl, trivial⟩ ?_
 intro j a hr
 refine sr ?_
 refine oo [8, 9] [vB false, vI 0] hr fun a hr => ?_
 refine ln ?_
 refine wp_seq ?_
 refine sr ?_
 obtain ⟨r1, e2, H⟩ := bd1 H
 refine oo [10, 11] [pN, vI p1] hr fun a hr => ?_
 have hc := cells_Shared_outside_nil_ok (H := e2) (h := h)
 refine cl (wn rfl) hr hc ?_; clear hc h
 rintro _ w ⟨rfl, h⟩; refine ⟨_, rfl, fun a hr => ?_⟩
 refine ln ?_
 by_cases c3 : r1 = true
 ·
  replace H := ifT c3 H
  refine cond_tt hr (c3) ?_
  refine sr ?_
  refine oo [8, 9] [vB false, vI 20] hr fun a hr => ?_
  refine ln ?_
  refine wp_ret ?_
  refine then_ret ?_
  refine end_ret2 (v := vB false) (v' := vI 20) rfl hr (by kernel_rfl) (by kernel_rfl) ?_
  obtain ⟨rfl, rfl⟩ := ej2 H
  exact ⟨rfl, h⟩
 ·
  replace H := ifF c3 H
  refine cond_ff hr (bF c3) ?_
  refine wp_skip ?_
  refine then_normal ?_
  refine sr ?_
  cases H

/-- (*plunder/cells.Shared).Add -/
def cells_Shared_Add_nil (p1 : Int) (p2 : Int) : Option (Int × Int) :=
  ob1 (cells_Shared_outside_nil p1) (fun r1 => (if r1 = true then some (0, 20) else none))

set_option maxRecDepth 100000 in
set_option maxHeartbeats 4000000 in
theorem cells_Shared_Add_nil_ok {z w : World} {L : List HProp} {p1 : Int} {p2 : Int} {r0 : Int} {r1 : Int} (H : cells_Shared_Add_nil p1 p2 = some (r0, r1)) (h : Fit z (sepL (L)) w)  :
    Calls Try.prog 76 #[pN, vI p1, vI p2] w fun e w => e = .returned (.tuple #[vI r0, vI r1]) ∧ Fit z (sepL (L)) w := by
 unfold cells_Shared_Add_nil at H
 refine enter Try.func76 rfl 19 rfl rfl [(0, pN), (1, vI p1), (2, vI p2)] ⟨rfl, rfl, rfl, trivial⟩ ?_
 intro j a hr
 refine sr ?_
 refine oo [6, 7] [vI 0, vI 0] hr fun a hr => ?_
 refine ln ?_
 refine wp_seq ?_
 refine sr ?_
 obtain ⟨r1, e2, H⟩ := bd1 H
 refine oo [8, 9] [pN, vI p1] hr fun a hr => ?_
 have hc := cells_Shared_outside_nil_ok (H := e2) (h := h)
 refine cl (wn rfl) hr hc ?_; clear hc h
 rintro _ w ⟨rfl, h⟩; refine ⟨_, rfl, fun a hr => ?_⟩
 refine ln ?_
 by_cases c3 : r1 = true
 ·
  replace H := ifT c3 H
  refine cond_tt hr (c3) ?_
  refine sr ?_
  refine oo [6, 7] [vI 0, vI 20] hr fun a hr => ?_
  refine ln ?_
  refine wp_ret ?_
  refine then_ret ?_
  refine end_ret2 (v := vI 0) (v' := vI 20) rfl hr (by kernel_rfl) (by kernel_rfl) ?_
  obtain ⟨rfl, rfl⟩ := ej2 H
  exact ⟨rfl, h⟩
 ·
  replace H := ifF c3 H
  refine cond_ff hr (bF c3) ?_
  refine wp_skip ?_
  refine then_normal ?_
  refine sr ?_
  cases H

/-- (*plunder/cells.ledger).refuse -/
def cells_ledger_refuse_nil (p1 : Int) : Option (Int) :=
  (if p1 < 1 then some 21 else some 22)

set_option maxRecDepth 100000 in
set_option maxHeartbeats 4000000 in
theorem cells_ledger_refuse_nil_ok {z w : World} {L : List HProp} {p1 : Int} {r0 : Int} (H : cells_ledger_refuse_nil p1 = some r0) (h : Fit z (sepL (L)) w)  :
    Calls Try.prog 62 #[pN, vI p1] w fun e w => e = .returned (vI r0) ∧ Fit z (sepL (L)) w := by
 unfold cells_ledger_refuse_nil at H
 refine enter Try.func62 rfl 22 rfl rfl [(0, pN), (1, vI p1)] ⟨rfl, rfl, trivial⟩ ?_
 intro j a hr
 refine sr ?_
 refine o1 hr (vI 0) fun a hr => ?_
 refine ln ?_
 refine wp_seq ?_
 refine sr ?_
 refine oo [5, 6] [vI p1, vB (decide (p1 < 1))] hr fun a hr => ?_
 refine ln ?_
 by_cases c1 : p1 < 1
 ·
  replace H := ifT c1 H
  refine cond_tt hr (decide_eq_true c1) ?_
  refine sr ?_
  refine o1 hr (vI 21) fun a hr => ?_
  refine ln ?_
  refine wp_ret ?_
  refine then_ret ?_
  refine end_ret1 (v := vI 21) rfl hr (by kernel_rfl) ?_
  replace H := ej1 H; subst H
  exact ⟨rfl, h⟩
 ·
  replace H := ifF c1 H
  refine cond_ff hr (decide_eq_false c1) ?_
  refine wp_skip ?_
  refine then_normal ?_
  refine wp_seq ?_
  refine wp_seq ?_
  refine reg_E (fun w => True) [] h (by kernel_rfl) ?_; intro w h
  change wpAnyE _ _ _ _ _ _ 15 (Array.replicate 15 false) a w
  refine evs 14 0 rfl (wn rfl) hr (pN) fun a hr => ?_
  refine evs 13 1 rfl (wn rfl) hr (vB true) fun a hr => ?_
  refine evs 12 2 rfl (wn rfl) hr (vB true) fun a hr => ?_
  refine eos 11 3 rfl (wgt hr (c := true) rfl) hr fun a hr => ?_
  refine eos 10 4 rfl (wgt hr (c := true) rfl) hr fun a hr => ?_
  refine eos 9 5 rfl (wgt hr (c := true) rfl) hr fun a hr => ?_
  refine eos 8 6 rfl (wgt hr (c := true) rfl) hr fun a hr => ?_
  refine eos 7 8 rfl (wgt hr (c := true) rfl) hr fun a hr => ?_
  refine eos 6 9 rfl (wgt hr (c := true) rfl) hr fun a hr => ?_
  refine eos 5 10 rfl (wgt hr (c := true) rfl) hr fun a hr => ?_
  refine eos 4 7 rfl (wgt hr (c := true) rfl) hr fun a hr => ?_
  refine eos 3 11 rfl (wgt hr (c := true) rfl) hr fun a hr => ?_
  refine eos 2 12 rfl (wgt hr (c := true) rfl) hr fun a hr => ?_
  refine eos 1 13 rfl (wgt hr (c := true) rfl) hr fun a hr => ?_
  refine evs 0 14 rfl (wn rfl) hr (vB true) fun a hr => ?_
  refine e_end (by kernel_rfl) ?_
  refine then_normal ?_
  refine cond_tt hr (b := true) rfl ?_
  refine sr ?_
  refine o1 hr (vI 22) fun a hr => ?_
  refine ln ?_
  refine wp_ret ?_
  refine then_ret ?_
  refine end_ret1 (v := vI 22) rfl hr (by kernel_rfl) ?_
  replace H := ej1 H; subst H
  exact ⟨rfl, h⟩

/-- (*plunder/cells.Shared).Reserve -/
def cells_Shared_Reserve_nil (p1 : Int) : Option (Int × Int) :=
  ob1 (cells_ledger_refuse_nil p1) (fun r1 => some (0, r1))

set_option maxRecDepth 100000 in
set_option maxHeartbeats 4000000 in
theorem cells_Shared_Reserve_nil_ok {z w : World} {L : List HProp} {p1 : Int} {r0 : Int} {r1 : Int} (H : cells_Shared_Reserve_nil p1 = some (r0, r1)) (h : Fit z (sepL (L)) w)  :
    Calls Try.prog 77 #[pN, vI p1] w fun e w => e = .returned (.tuple #[vI r0, vI r1]) ∧ Fit z (sepL (L)) w := by
 unfold cells_Shared_Reserve_nil at H
 refine enterD Try.func77 rfl 42 rfl rfl [(0, pN), (1, vI p1)] ⟨rfl, rfl, trivial⟩ ?_
 intro j a hr
 refine sr ?_
 refine oo [4, 5] [vI 0, vI 0] hr fun a hr => ?_
 refine ln ?_
 refine wp_seq ?_
 refine sr ?_
 refine oo [9, 10] [pN, vB true] hr fun a hr => ?_
 refine ln ?_
 refine cond_tt hr (b := true) rfl ?_
 refine sr ?_
 refine o1 hr (pN) fun a hr => ?_
 refine ln ?_
 refine sr ?_
 obtain ⟨r1, e2, H⟩ := bd1 H
 refine oo [11, 12] [pN, vI p1] hr fun a hr => ?_
 have hc := cells_ledger_refuse_nil_ok (H := e2) (h := h)
 refine cl (wn rfl) hr hc ?_; clear hc h
 rintro _ w ⟨rfl, h⟩; refine ⟨_, rfl, fun a hr => ?_⟩
 refine oo [4, 5] [vI 0, vI r1] hr fun a hr => ?_
 refine ln ?_
 refine wp_ret ?_
 refine then_ret ?_
 refine endD_none hr (res2 (v := vI 0) (v' := vI r1) rfl hr (by kernel_rfl) (by kernel_rfl) _) ?_
 obtain ⟨rfl, rfl⟩ := ej2 H
 exact ⟨rfl, h⟩

/-- plunder/plunderlaw2.shared -/
def plunderlaw2_shared_nil (p1 : T_plunderlaw2_Move) : Option (T_api_Effect) :=
  (if p1.Kind = 0 then ob2 (cells_Shared_Load_nil p1.Addr) (fun r4 r5 => some (⟨r4, r5 == 0, r5⟩ : T_api_Effect)) else (if p1.Kind = 1 then ob1 (cells_Shared_Store_nil p1.Addr p1.A) (fun r8 => some (⟨0, r8 == 0, r8⟩ : T_api_Effect)) else (if p1.Kind = 2 then ob2 (cells_Shared_CAS_nil p1.Addr p1.A p1.B) (fun r11 r12 => some (⟨0, r11, r12⟩ : T_api_Effect)) else (if p1.Kind = 3 then ob2 (cells_Shared_Add_nil p1.Addr p1.A) (fun r15 r16 => some (⟨r15, r16 == 0, r16⟩ : T_api_Effect)) else ob2 (cells_Shared_Reserve_nil p1.A) (fun r18 r19 => some (⟨r18, r19 == 0, r19⟩ : T_api_Effect))))))

set_option maxRecDepth 100000 in
set_option maxHeartbeats 4000000 in
theorem plunderlaw2_shared_nil_ok {z w : World} {L : List HProp} {p1 : T_plunderlaw2_Move} {r0 : T_api_Effect} (H : plunderlaw2_shared_nil p1 = some r0) (h : Fit z (sepL (L)) w)  :
    Calls Try.prog 29 #[pN, ag_T_plunderlaw2_Move p1] w fun e w => e = .returned (ag_T_api_Effect r0) ∧ Fit z (sepL (L)) w := by
 unfold plunderlaw2_shared_nil at H
 refine enter Try.func29 rfl 86 rfl rfl [(0, pN), (1, ag_T_plunderlaw2_Move p1)] ⟨rfl, rfl, trivial⟩ ?_
 intro j a hr
 refine sr ?_
 refine onew (wn rfl) hr h nb (ca_T_plunderlaw2_Move p1) 30 fun b1 w a h hr => ?_
 refine onew (wn rfl) hr h nb (#[vI 0, vB false, vI 0]) 39 fun b2 w a h hr => ?_
 refine ln ?_
 refine wp_seq ?_
 refine sr ?_
 refine o1 hr (pA b1 1) fun a hr => ?_
 refine ld (wn rfl) hr (vI p1.Kind) ((h.pick 1).cell 1 rfl) fun a hr => ?_
 refine ln ?_
 refine wp_block ?_
 refine sr ?_
 refine oo [17, 16] [vB (p1.Kind == 0), vB (p1.Kind == 0)] hr fun a hr => ?_
 refine ln ?_
 by_cases c3 : p1.Kind = 0
 ·
  replace H := ifT c3 H
  refine cond_tt hr (beq_iff_eq.mpr c3) ?_
  refine sr ?_
  refine oo [19, 20] [pN, pA b1 2] hr fun a hr => ?_
  refine ld (wn rfl) hr (vI p1.Addr) ((h.pick 1).cell 2 rfl) fun a hr => ?_
  obtain ⟨r4, r5, e6, H⟩ := bd2 H
  have hc := cells_Shared_Load_nil_ok (H := e6) (h := h)
  refine cl (wn rfl) hr hc ?_; clear hc h
  rintro _ w ⟨rfl, h⟩; refine ⟨_, rfl, fun a hr => ?_⟩
  refine oo [18, 23, 24, 5, 6] [.tuple #[vI r4, vI r5], vI r4, vI r5, vI r4, vI r5] hr fun a hr => ?_
  refine ln ?_
  refine sr ?_
  refine oo [25, 26, 27, 28, 29] [vI r4, vI r5, vB (r5 == 0), vI r5, .agg #[vI r4, vB (r5 == 0), vI r5]] hr fun a hr => ?_
  refine stos (wn rfl) hr h 0 ([vI r4, vB (r5 == 0), vI r5]) (#[vI r4, vB (r5 == 0), vI r5]) fun w h => ?_
  refine wpList_nil ?_
  replace h : Fit z (sepL (pts b2 (.cells #[vI r4, vB (r5 == 0), vI r5] 39) :: ob30 b1 p1 :: L)) _ := h
  refine then_normal ?_
  refine wp_ret ?_
  refine blk_ret ?_
  refine then_ret ?_
  refine end_retC (cs := [vI r4, vB (r5 == 0), vI r5]) rfl hr (by kernel_rfl) (by kernel_rfl) (by kernel_rfl) (h.held 0 rfl) ?_
  replace h : Fit z (sepL (L)) _ := h.sel 2 [] (by kernel_rfl) (by kernel_rfl)
  replace H := ej1 H; subst H
  exact ⟨rfl, h⟩
 ·
  replace H := ifF c3 H
  refine cond_ff hr (beq_eq_false_iff_ne.mpr c3) ?_
  refine sr ?_
  refine oo [31, 30] [vB (p1.Kind == 1), vB (p1.Kind == 1)] hr fun a hr => ?_
  refine ln ?_
  by_cases c7 : p1.Kind = 1
  ·
   replace H := ifT c7 H
   refine cond_tt hr (beq_iff_eq.mpr c7) ?_
   refine sr ?_
   refine oo [32, 33] [pN, pA b1 2] hr fun a hr => ?_
   refine ld (wn rfl) hr (vI p1.Addr) ((h.pick 1).cell 2 rfl) fun a hr => ?_
   refine o1 hr (pA b1 3) fun a hr => ?_
   refine ld (wn rfl) hr (vI p1.A) ((h.pick 1).cell 3 rfl) fun a hr => ?_
   obtain ⟨r8, e9, H⟩ := bd1 H
   have hc := cells_Shared_Store_nil_ok (H := e9) (h := h)
   refine cl (wn rfl) hr hc ?_; clear hc h
   rintro _ w ⟨rfl, h⟩; refine ⟨_, rfl, fun a hr => ?_⟩
   refine o1 hr (vI r8) fun a hr => ?_
   refine ln ?_
   refine sr ?_
   refine oo [38, 39, 40, 41] [vI r8, vB (r8 == 0), vI r8, .agg #[vI 0, vB (r8 == 0), vI r8]] hr fun a hr => ?_
   refine stos (wn rfl) hr h 0 ([vI 0, vB (r8 == 0), vI r8]) (#[vI 0, vB (r8 == 0), vI r8]) fun w h => ?_
   refine wpList_nil ?_
   replace h : Fit z (sepL (pts b2 (.cells #[vI 0, vB (r8 == 0), vI r8] 39) :: ob30 b1 p1 :: L)) _ := h
   refine then_normal ?_
   refine wp_ret ?_
   refine blk_ret ?_
   refine then_ret ?_
   refine end_retC (cs := [vI 0, vB (r8 == 0), vI r8]) rfl hr (by kernel_rfl) (by kernel_rfl) (by kernel_rfl) (h.held 0 rfl) ?_
   replace h : Fit z (sepL (L)) _ := h.sel 2 [] (by kernel_rfl) (by kernel_rfl)
   replace H := ej1 H; subst H
   exact ⟨rfl, h⟩
  ·
   replace H := ifF c7 H
   refine cond_ff hr (beq_eq_false_iff_ne.mpr c7) ?_
   refine sr ?_
   refine oo [43, 42] [vB (p1.Kind == 2), vB (p1.Kind == 2)] hr fun a hr => ?_
   refine ln ?_
   by_cases c10 : p1.Kind = 2
   ·
    replace H := ifT c10 H
    refine cond_tt hr (beq_iff_eq.mpr c10) ?_
    refine sr ?_
    refine oo [45, 46] [pN, pA b1 2] hr fun a hr => ?_
    refine ld (wn rfl) hr (vI p1.Addr) ((h.pick 1).cell 2 rfl) fun a hr => ?_
    refine o1 hr (pA b1 3) fun a hr => ?_
    refine ld (wn rfl) hr (vI p1.A) ((h.pick 1).cell 3 rfl) fun a hr => ?_
    refine o1 hr (pA b1 4) fun a hr => ?_
    refine ld (wn rfl) hr (vI p1.B) ((h.pick 1).cell 4 rfl) fun a hr => ?_
    obtain ⟨r11, r12, e13, H⟩ := bd2 H
    have hc := cells_Shared_CAS_nil_ok (H := e13) (h := h)
    refine cl (wn rfl) hr hc ?_; clear hc h
    rintro _ w ⟨rfl, h⟩; refine ⟨_, rfl, fun a hr => ?_⟩
    refine oo [44, 53, 54, 8, 9] [.tuple #[vB r11, vI r12], vB r11, vI r12, vB r11, vI r12] hr fun a hr => ?_
    refine ln ?_
    refine sr ?_
    refine oo [55, 56, 57] [vB r11, vI r12, .agg #[vI 0, vB r11, vI r12]] hr fun a hr => ?_
    refine stos (wn rfl) hr h 0 ([vI 0, vB r11, vI r12]) (#[vI 0, vB r11, vI r12]) fun w h => ?_
    refine wpList_nil ?_
    replace h : Fit z (sepL (pts b2 (.cells #[vI 0, vB r11, vI r12] 39) :: ob30 b1 p1 :: L)) _ := h
    refine then_normal ?_
    refine wp_ret ?_
    refine blk_ret ?_
    refine then_ret ?_
    refine end_retC (cs := [vI 0, vB r11, vI r12]) rfl hr (by kernel_rfl) (by kernel_rfl) (by kernel_rfl) (h.held 0 rfl) ?_
    replace h : Fit z (sepL (L)) _ := h.sel 2 [] (by kernel_rfl) (by kernel_rfl)
    replace H := ej1 H; subst H
    exact ⟨rfl, h⟩
   ·
    replace H := ifF c10 H
    refine cond_ff hr (beq_eq_false_iff_ne.mpr c10) ?_
    refine sr ?_
    refine oo [59, 58] [vB (p1.Kind == 3), vB (p1.Kind == 3)] hr fun a hr => ?_
    refine ln ?_
    by_cases c14 : p1.Kind = 3
    ·
     replace H := ifT c14 H
     refine cond_tt hr (beq_iff_eq.mpr c14) ?_
     refine sr ?_
     refine oo [61, 62] [pN, pA b1 2] hr fun a hr => ?_
     refine ld (wn rfl) hr (vI p1.Addr) ((h.pick 1).cell 2 rfl) fun a hr => ?_
     refine o1 hr (pA b1 3) fun a hr => ?_
     refine ld (wn rfl) hr (vI p1.A) ((h.pick 1).cell 3 rfl) fun a hr => ?_
     obtain ⟨r15, r16, e17, H⟩ := bd2 H
     have hc := cells_Shared_Add_nil_ok (H := e17) (h := h)
     refine cl (wn rfl) hr hc ?_; clear hc h
     rintro _ w ⟨rfl, h⟩; refine ⟨_, rfl, fun a hr => ?_⟩
     refine oo [60, 67, 68, 10, 11] [.tuple #[vI r15, vI r16], vI r15, vI r16, vI r15, vI r16] hr fun a hr => ?_
     refine ln ?_
     refine sr ?_
     refine oo [69, 70, 71, 72, 73] [vI r15, vI r16, vB (r16 == 0), vI r16, .agg #[vI r15, vB (r16 == 0), vI r16]] hr fun a hr => ?_
     refine stos (wn rfl) hr h 0 ([vI r15, vB (r16 == 0), vI r16]) (#[vI r15, vB (r16 == 0), vI r16]) fun w h => ?_
     refine wpList_nil ?_
     replace h : Fit z (sepL (pts b2 (.cells #[vI r15, vB (r16 == 0), vI r16] 39) :: ob30 b1 p1 :: L)) _ := h
     refine then_normal ?_
     refine wp_ret ?_
     refine blk_ret ?_
     refine then_ret ?_
     refine end_retC (cs := [vI r15, vB (r16 == 0), vI r16]) rfl hr (by kernel_rfl) (by kernel_rfl) (by kernel_rfl) (h.held 0 rfl) ?_
     replace h : Fit z (sepL (L)) _ := h.sel 2 [] (by kernel_rfl) (by kernel_rfl)
     replace H := ej1 H; subst H
     exact ⟨rfl, h⟩
    ·
     replace H := ifF c14 H
     refine cond_ff hr (beq_eq_false_iff_ne.mpr c14) ?_
     refine wp_skip ?_
     refine blk_normal ?_
     refine then_normal ?_
     refine sr ?_
     refine oo [75, 76] [pN, pA b1 3] hr fun a hr => ?_
     refine ld (wn rfl) hr (vI p1.A) ((h.pick 1).cell 3 rfl) fun a hr => ?_
     obtain ⟨r18, r19, e20, H⟩ := bd2 H
     have hc := cells_Shared_Reserve_nil_ok (H := e20) (h := h)
     refine cl (wn rfl) hr hc ?_; clear hc h
     rintro _ w ⟨rfl, h⟩; refine ⟨_, rfl, fun a hr => ?_⟩
     refine oo [74, 79, 80, 12, 13] [.tuple #[vI r18, vI r19], vI r18, vI r19, vI r18, vI r19] hr fun a hr => ?_
     refine ln ?_
     refine sr ?_
     refine oo [81, 82, 83, 84, 85] [vI r18, vI r19, vB (r19 == 0), vI r19, .agg #[vI r18, vB (r19 == 0), vI r19]] hr fun a hr => ?_
     refine stos (wn rfl) hr h 0 ([vI r18, vB (r19 == 0), vI r19]) (#[vI r18, vB (r19 == 0), vI r19]) fun w h => ?_
     refine wpList_nil ?_
     replace h : Fit z (sepL (pts b2 (.cells #[vI r18, vB (r19 == 0), vI r19] 39) :: ob30 b1 p1 :: L)) _ := h
     refine then_normal ?_
     refine wp_ret ?_
     refine end_retC (cs := [vI r18, vB (r19 == 0), vI r19]) rfl hr (by kernel_rfl) (by kernel_rfl) (by kernel_rfl) (h.held 0 rfl) ?_
     replace h : Fit z (sepL (L)) _ := h.sel 2 [] (by kernel_rfl) (by kernel_rfl)
     replace H := ej1 H; subst H
     exact ⟨rfl, h⟩

/-- (*plunder/cells.Shared).Size -/
def cells_Shared_Size_nil : Option (Int) :=
  some 0

set_option maxRecDepth 100000 in
set_option maxHeartbeats 4000000 in
theorem cells_Shared_Size_nil_ok {z w : World} {L : List HProp}  {r0 : Int} (H : cells_Shared_Size_nil = some r0) (h : Fit z (sepL (L)) w)  :
    Calls Try.prog 32 #[pN] w fun e w => e = .returned (vI r0) ∧ Fit z (sepL (L)) w := by
 unfold cells_Shared_Size_nil at H
 refine enter Try.func32 rfl 9 rfl rfl [(0, pN)] ⟨rfl, trivial⟩ ?_
 intro j a hr
 refine sr ?_
 refine o1 hr (vI 0) fun a hr => ?_
 refine ln ?_
 refine wp_seq ?_
 refine sr ?_
 refine oo [3, 4] [pN, vB true] hr fun a hr => ?_
 refine ln ?_
 refine cond_tt hr (b := true) rfl ?_
 refine sr ?_
 refine o1 hr (vI 0) fun a hr => ?_
 refine ln ?_
 refine wp_ret ?_
 refine then_ret ?_
 refine end_ret1 (v := vI 0) rfl hr (by kernel_rfl) ?_
 replace H := ej1 H; subst H
 exact ⟨rfl, h⟩

/-- (*plunder/cells.Shared).Mark -/
def cells_Shared_Mark_nil : Option (Int) :=
  some 0

set_option maxRecDepth 100000 in
set_option maxHeartbeats 4000000 in
theorem cells_Shared_Mark_nil_ok {z w : World} {L : List HProp}  {r0 : Int} (H : cells_Shared_Mark_nil = some r0) (h : Fit z (sepL (L)) w)  :
    Calls Try.prog 33 #[pN] w fun e w => e = .returned (vI r0) ∧ Fit z (sepL (L)) w := by
 unfold cells_Shared_Mark_nil at H
 refine enterD Try.func33 rfl 16 rfl rfl [(0, pN)] ⟨rfl, trivial⟩ ?_
 intro j a hr
 refine sr ?_
 refine o1 hr (vI 0) fun a hr => ?_
 refine ln ?_
 refine wp_seq ?_
 refine sr ?_
 refine oo [3, 4] [pN, vB true] hr fun a hr => ?_
 refine ln ?_
 refine cond_tt hr (b := true) rfl ?_
 refine sr ?_
 refine o1 hr (vI 0) fun a hr => ?_
 refine ln ?_
 refine wp_ret ?_
 refine then_ret ?_
 refine endD_none hr (res1 (v := vI 0) rfl hr (by kernel_rfl) _) ?_
 replace H := ej1 H; subst H
 exact ⟨rfl, h⟩

def plunderlaw2_holds_nil_l1 (K : Nat) (p1 : List Int) : Nat → Int → Option ((Unit) ⊕ (Bool))
  | 0, _ => none
  | k1 + 1, g3 => (if g3 < ((p1.length : Nat) : Int) then ob2 (cells_Shared_Load_nil g3) (fun r5 r6 => (if r6 = 0 then if inr_ g3 p1.length then (if r5 = (at_ p1 g3.toNat) then (plunderlaw2_holds_nil_l1 K p1 k1 (wi (g3 + 1))) else some (.inr false)) else none else some (.inr false))) else some (.inl ()))
/-- plunder/plunderlaw2.holds -/
def plunderlaw2_holds_nil (K : Nat) (p1 : List Int) : Option (Bool) :=
  jn0 ((plunderlaw2_holds_nil_l1 K p1 K 0)) (ob2 (cells_Shared_Load_nil ((p1.length : Nat) : Int)) (fun r11 r12 => (if r12 = 20 then ob1 (cells_Shared_Mark_nil) (fun r15 => some (r15 == ((p1.length : Nat) : Int))) else some false)))

set_option maxRecDepth 100000 in
set_option maxHeartbeats 4000000 in
theorem plunderlaw2_holds_nil_ok {z w : World} {L : List HProp} {K : Nat} {p1 : List Int} {va1 : Option Addr} {vc1 : Nat} {r0 : Bool} (H : plunderlaw2_holds_nil K p1 = some r0) (h : Fit z (sepL (L)) w) (hv1 : RdRow L 1 encZ_i64 va1 p1) :
    Calls Try.prog 34 #[pN, .slice va1 p1.length vc1] w fun e w => e = .returned (vB r0) ∧ Fit z (sepL (L)) w := by
 unfold plunderlaw2_holds_nil at H
 refine enter Try.func34 rfl 48 rfl rfl [(0, pN), (1, .slice va1 p1.length vc1)] ⟨rfl, rfl, trivial⟩ ?_
 intro j a hr
 refine sr ?_
 refine o1 hr (vB false) fun a hr => ?_
 refine ln ?_
 obtain ⟨o2, H, hK1⟩ := jd0 H
 refine cut_rule (β := Unit) (fun _ a w => .inl () = o2 ∧ ∃ j, Rep 48 (lk [(0, pN), (1, .slice va1 p1.length vc1)] j) a ∧ Fit z (sepL (L)) w) ?_ ?_
 ·
  refine sr ?_
  refine o1 hr (vI 0) fun a hr => ?_
  refine ln ?_
  refine wp_block ?_
  replace hr := hr.fold2 [(0, pN), (1, .slice va1 p1.length vc1), (5, vI 0)] (by kernel_rfl); obtain ⟨j, hr⟩ := hr
  refine loop_rule (β := Nat) id (fun m a w => ∃ g3 : Int, (plunderlaw2_holds_nil_l1 K p1 m g3) = some o2 ∧ ∃ j, Rep 48 (lk [(0, pN), (1, .slice va1 p1.length vc1), (5, vI g3)] j) a ∧ Fit z (sepL (L)) w) K ⟨0, H, j, hr, h⟩ ?_
  clear h hr a H; rintro k1 a w ⟨g3, H, j, hr, h⟩
  cases k1 with
  | zero => exact absurd H (by simp [plunderlaw2_holds_nil_l1])
  | succ k1 =>
   rw [plunderlaw2_holds_nil_l1] at H
   refine wp_seq ?_
   refine sr ?_
   refine oo [10, 11, 12, 13] [vI g3, .slice va1 p1.length vc1, vI ((p1.length : Nat) : Int), vB (decide (g3 < ((p1.length : Nat) : Int)))] hr fun a hr => ?_
   refine ln ?_
   by_cases c4 : g3 < ((p1.length : Nat) : Int)
   ·
    replace H := ifT c4 H
    refine cond_tt hr (decide_eq_true c4) ?_
    refine wp_skip ?_
    refine then_normal ?_
    refine wp_seq ?_
    refine wp_block ?_
    refine sr ?_
    obtain ⟨r5, r6, e7, H⟩ := bd2 H
    refine oo [17, 18] [pN, vI g3] hr fun a hr => ?_
    have hc := cells_Shared_Load_nil_ok (H := e7) (h := h)
    refine cl (wn rfl) hr hc ?_; clear hc h
    rintro _ w ⟨rfl, h⟩; refine ⟨_, rfl, fun a hr => ?_⟩
    refine oo [16, 20, 21, 6, 7] [.tuple #[vI r5, vI r6], vI r5, vI r6, vI r5, vI r6] hr fun a hr => ?_
    refine ln ?_
    refine sr ?_
    refine oo [22, 23, 24] [vI r6, vB (r6 != 0), vB (r6 != 0)] hr fun a hr => ?_
    by_cases c8 : r6 = 0
    ·
     replace H := ifT c8 H
     refine opv (wgt hr (bne_eq_false_iff_eq.mpr c8)) hr (vI r5) (by kernel_rfl) fun a hr => ?_
     refine opv (wgt hr (bne_eq_false_iff_eq.mpr c8)) hr (.slice va1 p1.length vc1) (by kernel_rfl) fun a hr => ?_
     refine opv (wgt hr (bne_eq_false_iff_eq.mpr c8)) hr (vI g3) (by kernel_rfl) fun a hr => ?_
     obtain ⟨c9, H⟩ := gd H
     refine opv (wgt hr (bne_eq_false_iff_eq.mpr c8)) hr (pA (blk va1) (offs va1 + g3.toNat * 1)) (ri_rd (k := .i64) (E := 2) (cc := vc1) rfl (by kernel_rfl) (by kernel_rfl) rfl (by kernel_rfl) (by kernel_rfl) hv1 c9) fun a hr => ?_
     refine ld (wgt hr (bne_eq_false_iff_eq.mpr c8)) hr (vI (at_ p1 g3.toNat)) (hv1.cell c9 (h.dn 0) 0 rfl) fun a hr => ?_
     refine opv (wgt hr (bne_eq_false_iff_eq.mpr c8)) hr (vB (r5 != (at_ p1 g3.toNat))) (by kernel_rfl) fun a hr => ?_
     refine opv (wn rfl) hr (vB (r5 != (at_ p1 g3.toNat))) (rp_f (b := (r6 != 0)) rfl (by kernel_rfl) (bne_eq_false_iff_eq.mpr c8) (by kernel_rfl)) fun a hr => ?_
     refine ln ?_
     by_cases c10 : r5 = (at_ p1 g3.toNat)
     ·
      replace H := ifT c10 H
      refine cond_ff hr (bne_eq_false_iff_eq.mpr c10) ?_
      refine wp_skip ?_
      refine blk_normal ?_
      refine then_normal ?_
      refine wp_region_lit ?_
      refine oo [14, 15, 5] [vI g3, vI (wi (g3 + 1)), vI (wi (g3 + 1))] hr fun a hr => ?_
      refine ln ?_
      replace hr := hr.fold2 [(0, pN), (1, .slice va1 p1.length vc1), (5, vI (wi (g3 + 1)))] (by kernel_rfl); obtain ⟨j, hr⟩ := hr
      exact ⟨_, ⟨(wi (g3 + 1)), H, j, hr, h⟩, Nat.lt_succ_self _⟩
     ·
      replace H := ifF c10 H
      refine cond_tt hr (bne_iff_ne.mpr c10) ?_
      refine sr ?_
      refine o1 hr (vB false) fun a hr => ?_
      refine ln ?_
      refine wp_ret ?_
      refine blk_ret ?_
      refine then_ret ?_
      refine then_ret ?_
      refine blk_ret ?_
      refine then_ret ?_
      refine end_ret1 (v := vB false) rfl hr (by kernel_rfl) ?_
      replace H := jx0 H hK1
      replace H := ej1 H; subst H
      exact ⟨rfl, h⟩
    ·
     replace H := ifF c8 H
     refine offg (wgt hr (bne_iff_ne.mpr c8)) hr fun a hr => ?_
     refine offg (wgt hr (bne_iff_ne.mpr c8)) hr fun a hr => ?_
     refine offg (wgt hr (bne_iff_ne.mpr c8)) hr fun a hr => ?_
     refine offg (wgt hr (bne_iff_ne.mpr c8)) hr fun a hr => ?_
     refine offg (wgt hr (bne_iff_ne.mpr c8)) hr fun a hr => ?_
     refine offg (wgt hr (bne_iff_ne.mpr c8)) hr fun a hr => ?_
     refine opv (wn rfl) hr (vB true) (rp_t (b := (r6 != 0)) rfl (by kernel_rfl) (bne_iff_ne.mpr c8) (by kernel_rfl)) fun a hr => ?_
     refine ln ?_
     refine cond_tt hr (b := true) rfl ?_
     refine sr ?_
     refine o1 hr (vB false) fun a hr => ?_
     refine ln ?_
     refine wp_ret ?_
     refine blk_ret ?_
     refine then_ret ?_
     refine then_ret ?_
     refine blk_ret ?_
     refine then_ret ?_
     refine end_ret1 (v := vB false) rfl hr (by kernel_rfl) ?_
     replace H := jx0 H hK1
     replace H := ej1 H; subst H
     exact ⟨rfl, h⟩
   ·
    replace H := ifF c4 H
    refine cond_ff hr (decide_eq_false c4) ?_
    refine wp_exit ?_
    refine then_exit ?_
    refine then_exit ?_
    refine blk_here ?_
    refine then_normal ?_
    replace hr := hr.fold2 [(0, pN), (1, .slice va1 p1.length vc1)] (by kernel_rfl); obtain ⟨j, hr⟩ := hr
    exact ⟨(), sinj H, j, hr, h⟩
 clear h hr a; rintro _ a w ⟨rfl, j, hr, h⟩
 replace H := jk0 hK1
 refine sr ?_
 obtain ⟨r11, r12, e13, H⟩ := bd2 H
 refine oo [33, 34, 35] [pN, .slice va1 p1.length vc1, vI ((p1.length : Nat) : Int)] hr fun a hr => ?_
 have hc := cells_Shared_Load_nil_ok (H := e13) (h := h)
 refine cl (wn rfl) hr hc ?_; clear hc h
 rintro _ w ⟨rfl, h⟩; refine ⟨_, rfl, fun a hr => ?_⟩
 refine oo [32, 37, 38, 8, 9] [.tuple #[vI r11, vI r12], vI r11, vI r12, vI r11, vI r12] hr fun a hr => ?_
 refine ln ?_
 refine sr ?_
 refine oo [39, 40, 41] [vI r12, vB (r12 == 20), vB (r12 == 20)] hr fun a hr => ?_
 by_cases c14 : r12 = 20
 ·
  replace H := ifT c14 H
  refine opv (wgt hr (beq_iff_eq.mpr c14)) hr (pN) (by kernel_rfl) fun a hr => ?_
  obtain ⟨r15, e16, H⟩ := bd1 H
  have hc := cells_Shared_Mark_nil_ok (H := e16) (h := h)
  refine cl (wgt hr (beq_iff_eq.mpr c14)) hr hc ?_; clear hc h
  rintro _ w ⟨rfl, h⟩; refine ⟨_, rfl, fun a hr => ?_⟩
  refine opv (wgt hr (beq_iff_eq.mpr c14)) hr (.slice va1 p1.length vc1) (by kernel_rfl) fun a hr => ?_
  refine opv (wgt hr (beq_iff_eq.mpr c14)) hr (vI ((p1.length : Nat) : Int)) (by kernel_rfl) fun a hr => ?_
  refine opv (wgt hr (beq_iff_eq.mpr c14)) hr (vB (r15 == ((p1.length : Nat) : Int))) (by kernel_rfl) fun a hr => ?_
  refine opv (wn rfl) hr (vB (r15 == ((p1.length : Nat) : Int))) (rp_t (b := (r12 == 20)) rfl (by kernel_rfl) (beq_iff_eq.mpr c14) (by kernel_rfl)) fun a hr => ?_
  refine o1 hr (vB (r15 == ((p1.length : Nat) : Int))) fun a hr => ?_
  refine ln ?_
  refine wp_ret ?_
  refine end_ret1 (v := vB (r15 == ((p1.length : Nat) : Int))) rfl hr (by kernel_rfl) ?_
  replace H := ej1 H; subst H
  exact ⟨rfl, h⟩
 ·
  replace H := ifF c14 H
  refine offg (wgt hr (beq_eq_false_iff_ne.mpr c14)) hr fun a hr => ?_
  refine offg (wgt hr (beq_eq_false_iff_ne.mpr c14)) hr fun a hr => ?_
  refine offg (wgt hr (beq_eq_false_iff_ne.mpr c14)) hr fun a hr => ?_
  refine offg (wgt hr (beq_eq_false_iff_ne.mpr c14)) hr fun a hr => ?_
  refine offg (wgt hr (beq_eq_false_iff_ne.mpr c14)) hr fun a hr => ?_
  refine opv (wn rfl) hr (vB false) (rp_f (b := (r12 == 20)) rfl (by kernel_rfl) (beq_eq_false_iff_ne.mpr c14) (by kernel_rfl)) fun a hr => ?_
  refine o1 hr (vB false) fun a hr => ?_
  refine ln ?_
  refine wp_ret ?_
  refine end_ret1 (v := vB false) rfl hr (by kernel_rfl) ?_
  replace H := ej1 H; subst H
  exact ⟨rfl, h⟩


end Go.Proofs.Ytacgigkonoegiaa.Mo
