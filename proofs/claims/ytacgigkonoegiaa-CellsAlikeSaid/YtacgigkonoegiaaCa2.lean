/- what the functions compute, as plain Lean functions, and that they do -/
import Derived.Test.YtacgigkonoegiaaCa1
namespace Go.Proofs.Ytacgigkonoegiaa.Mo
open Go Go.RowKit Go.Proofs.Ytacgigkonoegiaa.SL Go.Proofs.Ytacgigkonoegiaa.GX
set_option linter.unusedVariables false
set_option linter.unusedSimpArgs false

/-- plunder/cells.NewShared -/
def cells_NewShared (p0 : Int) : Option ((Option T_cells_Shared) × Int) :=
  ob1 (cells_good p0) (fun r1 => (if r1 = true then if 0 ≤ p0 ∧ p0 * 8 ≤ 140737488355328 then some (some (⟨p0, 0, 0, 0, 0, List.replicate p0.toNat (⟨0⟩ : T_atomic_Int64)⟩ : T_cells_Shared), 0) else none else some (none, 3)))
set_option maxRecDepth 100000 in
set_option maxHeartbeats 4000000 in
theorem cells_NewShared_ok0 {z w : World} {L : List HProp} {p0 : Int} {r0 : T_cells_Shared} {r1 : Int} (H : cells_NewShared p0 = some ((some r0), r1)) (h : Fit z (sepL (L)) w)  :
    Calls Try.prog 28 #[vI p0] w fun e w => ∃ Bn0 : Nat, ∃ car0_1 : Option Addr, ∃ ccr0_2 : Nat, e = .returned (.tuple #[pA Bn0 0, vI r1]) ∧ Fit z (sepL (ob110 Bn0 r0 car0_1 ccr0_2 :: ro107 car0_1 ccr0_2 r0.cell :: L)) w := by
 unfold cells_NewShared at H
 refine enter Try.func28 rfl 13 rfl rfl [(0, vI p0)] ⟨rfl, trivial⟩ ?_
 intro j a hr
 refine sr ?_
 refine ovs [2, 3] [pN, vI 0] hr ⟨rfl, rfl⟩ (by kernel_rfl) ?_; clear hr a; intro a hr
 refine ln ?_
 refine wp_seq ?_
 refine sr ?_
 replace H := bd1 H; obtain ⟨r1, e2, H⟩ := H
 refine ov hr (vI p0) (by kernel_rfl) ?_; clear hr a; intro a hr
 have hc := cells_good_ok (H := e2) (h := h)
 refine op_call (wn rfl) rfl rfl hr (f := 61) (args := #[vI p0]) (by kernel_rfl) hc ?_; clear hc h
 rintro _ w ⟨rfl, h⟩; refine ⟨_, rfl, ?_⟩
 clear hr a; intro a hr
 refine ov hr (vB (!r1)) (by kernel_rfl) ?_; clear hr a; intro a hr
 refine ln ?_
 by_cases c3 : r1 = true
 ·
  replace H := ifT c3 H
  refine cond_ff hr (b := (!r1)) (by rw [show r1 = true from (c3)]; rfl) ?_
  refine wp_skip ?_
  refine then_normal ?_
  refine sr ?_
  replace H := gd H; obtain ⟨c4, H⟩ := H
  refine ovs [7, 8, 9] [vI p0, .agg #[vI p0, vI 0], vI p0] hr ⟨rfl, rfl⟩ (by kernel_rfl) ?_; clear hr a; intro a hr
  refine op_make_row (i := p0) (bytes := 8) (zc := #[vI 0]) (⟨0⟩ : T_atomic_Int64) (wn rfl) rfl rfl hr rfl (by kernel_rfl) (by kernel_rfl) c4 enc_T_atomic_Int64_ok (E := 107) (by kernel_rfl) (by kernel_rfl) rfl rfl h ?_; clear h hr a; intro ca5 w a h hr
  refine ov hr (.agg #[vI p0, vI 0, .int .i32 0, .int .u32 0, vI 0, .slice ca5 ((List.replicate p0.toNat (⟨0⟩ : T_atomic_Int64)).length) p0.toNat]) (by kernel_rfl) ?_; clear hr a; intro a hr
  refine op_new (wn rfl) rfl rfl hr h (vf := fun b => .pointer (some ⟨b, 0, none⟩)) (cs := #[vI p0, vI 0, .int .i32 0, .int .u32 0, vI 0, .slice ca5 ((List.replicate p0.toNat (⟨0⟩ : T_atomic_Int64)).length) p0.toNat]) (T := 110) (by kernel_rfl) ?_; clear h hr a; intro b6 w a h hr
  refine ovs [2, 3] [pA b6 0, vI 0] hr ⟨rfl, rfl⟩ (by kernel_rfl) ?_; clear hr a; intro a hr
  refine wpList_nil ?_
  replace h : Fit z (sepL (pts b6 (.cells #[vI p0, vI 0, .int .i32 0, .int .u32 0, vI 0, .slice ca5 ((List.replicate p0.toNat (⟨0⟩ : T_atomic_Int64)).length) p0.toNat] 110) :: ro107 ca5 p0.toNat (List.replicate p0.toNat (⟨0⟩ : T_atomic_Int64)) :: L)) _ := h
  refine then_normal ?_
  refine wp_ret ?_
  refine end_ret2 (v := pA b6 0) (v' := vI 0) rfl hr (by kernel_rfl) (by kernel_rfl) ?_
  cases H
  exact ⟨b6, ca5, p0.toNat, rfl, h⟩
 ·
  replace H := ifF c3 H
  refine cond_tt hr (b := (!r1)) (by rw [show r1 = false from (bF c3)]; rfl) ?_
  refine sr ?_
  refine ovs [2, 3] [pN, vI 3] hr ⟨rfl, rfl⟩ (by kernel_rfl) ?_; clear hr a; intro a hr
  refine ln ?_
  refine wp_ret ?_
  refine then_ret ?_
  refine end_ret2 (v := pN) (v' := vI 3) rfl hr (by kernel_rfl) (by kernel_rfl) ?_
  cases H

set_option maxRecDepth 100000 in
set_option maxHeartbeats 4000000 in
theorem cells_NewShared_ok1 {z w : World} {L : List HProp} {p0 : Int} {r1 : Int} (H : cells_NewShared p0 = some (none, r1)) (h : Fit z (sepL (L)) w)  :
    Calls Try.prog 28 #[vI p0] w fun e w => e = .returned (.tuple #[pN, vI r1]) ∧ Fit z (sepL (L)) w := by
 unfold cells_NewShared at H
 refine enter Try.func28 rfl 13 rfl rfl [(0, vI p0)] ⟨rfl, trivial⟩ ?_
 intro j a hr
 refine sr ?_
 refine ovs [2, 3] [pN, vI 0] hr ⟨rfl, rfl⟩ (by kernel_rfl) ?_; clear hr a; intro a hr
 refine ln ?_
 refine wp_seq ?_
 refine sr ?_
 replace H := bd1 H; obtain ⟨r1, e2, H⟩ := H
 refine ov hr (vI p0) (by kernel_rfl) ?_; clear hr a; intro a hr
 have hc := cells_good_ok (H := e2) (h := h)
 refine op_call (wn rfl) rfl rfl hr (f := 61) (args := #[vI p0]) (by kernel_rfl) hc ?_; clear hc h
 rintro _ w ⟨rfl, h⟩; refine ⟨_, rfl, ?_⟩
 clear hr a; intro a hr
 refine ov hr (vB (!r1)) (by kernel_rfl) ?_; clear hr a; intro a hr
 refine ln ?_
 by_cases c3 : r1 = true
 ·
  replace H := ifT c3 H
  refine cond_ff hr (b := (!r1)) (by rw [show r1 = true from (c3)]; rfl) ?_
  refine wp_skip ?_
  refine then_normal ?_
  refine sr ?_
  replace H := gd H; obtain ⟨c4, H⟩ := H
  refine ovs [7, 8, 9] [vI p0, .agg #[vI p0, vI 0], vI p0] hr ⟨rfl, rfl⟩ (by kernel_rfl) ?_; clear hr a; intro a hr
  refine op_make_row (i := p0) (bytes := 8) (zc := #[vI 0]) (⟨0⟩ : T_atomic_Int64) (wn rfl) rfl rfl hr rfl (by kernel_rfl) (by kernel_rfl) c4 enc_T_atomic_Int64_ok (E := 107) (by kernel_rfl) (by kernel_rfl) rfl rfl h ?_; clear h hr a; intro ca5 w a h hr
  refine ov hr (.agg #[vI p0, vI 0, .int .i32 0, .int .u32 0, vI 0, .slice ca5 ((List.replicate p0.toNat (⟨0⟩ : T_atomic_Int64)).length) p0.toNat]) (by kernel_rfl) ?_; clear hr a; intro a hr
  refine op_new (wn rfl) rfl rfl hr h (vf := fun b => .pointer (some ⟨b, 0, none⟩)) (cs := #[vI p0, vI 0, .int .i32 0, .int .u32 0, vI 0, .slice ca5 ((List.replicate p0.toNat (⟨0⟩ : T_atomic_Int64)).length) p0.toNat]) (T := 110) (by kernel_rfl) ?_; clear h hr a; intro b6 w a h hr
  refine ovs [2, 3] [pA b6 0, vI 0] hr ⟨rfl, rfl⟩ (by kernel_rfl) ?_; clear hr a; intro a hr
  refine wpList_nil ?_
  replace h : Fit z (sepL (pts b6 (.cells #[vI p0, vI 0, .int .i32 0, .int .u32 0, vI 0, .slice ca5 ((List.replicate p0.toNat (⟨0⟩ : T_atomic_Int64)).length) p0.toNat] 110) :: ro107 ca5 p0.toNat (List.replicate p0.toNat (⟨0⟩ : T_atomic_Int64)) :: L)) _ := h
  refine then_normal ?_
  refine wp_ret ?_
  refine end_ret2 (v := pA b6 0) (v' := vI 0) rfl hr (by kernel_rfl) (by kernel_rfl) ?_
  cases H
 ·
  replace H := ifF c3 H
  refine cond_tt hr (b := (!r1)) (by rw [show r1 = false from (bF c3)]; rfl) ?_
  refine sr ?_
  refine ovs [2, 3] [pN, vI 3] hr ⟨rfl, rfl⟩ (by kernel_rfl) ?_; clear hr a; intro a hr
  refine ln ?_
  refine wp_ret ?_
  refine then_ret ?_
  refine end_ret2 (v := pN) (v' := vI 3) rfl hr (by kernel_rfl) (by kernel_rfl) ?_
  cases H
  exact ⟨rfl, h⟩

/-- (*plunder/cells.Shared).outside -/
def cells_Shared_outside (p0 : T_cells_Shared) (p1 : Int) : Option (Bool) :=
  (if p1 < (0 : Int) then some true else some (decide (p1 ≥ p0.given_v)))
set_option maxRecDepth 100000 in
set_option maxHeartbeats 4000000 in
theorem cells_Shared_outside_ok {z w : World} {L : List HProp} {p0 : T_cells_Shared} {p1 : Int} {B0 : Nat} {ca1 : Option Addr} {cc2 : Nat} {r0 : Bool} (H : cells_Shared_outside p0 p1 = some r0) (h : Fit z (sepL (ob110 B0 p0 ca1 cc2 :: ro107 ca1 cc2 p0.cell :: L)) w)  :
    Calls Try.prog 103 #[pA B0 0, vI p1] w fun e w => e = .returned (vB r0) ∧ Fit z (sepL (ob110 B0 p0 ca1 cc2 :: ro107 ca1 cc2 p0.cell :: L)) w := by
 unfold cells_Shared_outside at H
 refine enter Try.func103 rfl 19 rfl rfl [(0, pA B0 0), (1, vI p1)] ⟨rfl, rfl, trivial⟩ ?_
 intro j a hr
 refine sr ?_
 refine ov hr (vB false) (by kernel_rfl) ?_; clear hr a; intro a hr
 refine ln ?_
 refine sr ?_
 refine ovs [5, 6, 7] [pA B0 0, vB false, vB false] hr ⟨rfl, rfl⟩ (by kernel_rfl) ?_; clear hr a; intro a hr
 refine opv (wgt hr (c := false) rfl) hr (vI p1) (by kernel_rfl) ?_; clear hr a; intro a hr
 refine opv (wgt hr (c := false) rfl) hr (vB (decide (p1 < (0 : Int)))) (by kernel_rfl) ?_; clear hr a; intro a hr
 refine ovs [10, 11] [vB (decide (p1 < (0 : Int))), vB (decide (p1 < (0 : Int)))] hr ⟨rfl, rfl⟩ (by kernel_rfl) ?_; clear hr a; intro a hr
 by_cases c3 : p1 < (0 : Int)
 ·
  replace H := ifT c3 H
  refine offg (wgt hr (decide_eq_true c3)) hr ?_; clear hr a; intro a hr
  refine offg (wgt hr (decide_eq_true c3)) hr ?_; clear hr a; intro a hr
  refine offg (wgt hr (decide_eq_true c3)) hr ?_; clear hr a; intro a hr
  refine offg (wgt hr (decide_eq_true c3)) hr ?_; clear hr a; intro a hr
  refine offg (wgt hr (decide_eq_true c3)) hr ?_; clear hr a; intro a hr
  refine offg (wgt hr (decide_eq_true c3)) hr ?_; clear hr a; intro a hr
  refine opv (wn rfl) hr (vB true) (rp_t (b := (decide (p1 < (0 : Int)))) rfl (by kernel_rfl) (decide_eq_true c3) (by kernel_rfl)) ?_; clear hr a; intro a hr
  refine ov hr (vB true) (by kernel_rfl) ?_; clear hr a; intro a hr
  refine ln ?_
  refine wp_ret ?_
  refine end_ret1 (v := vB true) rfl hr (by kernel_rfl) ?_
  replace H := ej1 H; subst H
  exact ⟨rfl, h⟩
 ·
  replace H := ifF c3 H
  refine opv (wgt hr (decide_eq_false c3)) hr (vI p1) (by kernel_rfl) ?_; clear hr a; intro a hr
  refine opv (wgt hr (decide_eq_false c3)) hr (pA B0 0) (by kernel_rfl) ?_; clear hr a; intro a hr
  refine opv (wgt hr (decide_eq_false c3)) hr (pA B0 0) (by kernel_rfl) ?_; clear hr a; intro a hr
  refine opv (wgt hr (decide_eq_false c3)) hr (pA B0 4) (by kernel_rfl) ?_; clear hr a; intro a hr
  refine op_call (wgt hr (decide_eq_false c3)) rfl rfl hr (f := 104) (args := #[pA B0 4]) (by kernel_rfl) (a_load (h.cell 4 rfl)) ?_; rintro _ _ ⟨rfl, rfl⟩; refine ⟨_, rfl, ?_⟩; clear hr a; intro a hr
  refine opv (wgt hr (decide_eq_false c3)) hr (vB (decide (p1 ≥ p0.given_v))) (by kernel_rfl) ?_; clear hr a; intro a hr
  refine opv (wn rfl) hr (vB (decide (p1 ≥ p0.given_v))) (rp_f (b := (decide (p1 < (0 : Int)))) rfl (by kernel_rfl) (decide_eq_false c3) (by kernel_rfl)) ?_; clear hr a; intro a hr
  refine ov hr (vB (decide (p1 ≥ p0.given_v))) (by kernel_rfl) ?_; clear hr a; intro a hr
  refine ln ?_
  refine wp_ret ?_
  refine end_ret1 (v := vB (decide (p1 ≥ p0.given_v))) rfl hr (by kernel_rfl) ?_
  replace H := ej1 H; subst H
  exact ⟨rfl, h⟩

/-- (*plunder/cells.Shared).Load -/
def cells_Shared_Load (p0 : T_cells_Shared) (p1 : Int) : Option (Int × Int) :=
  ob1 (cells_Shared_outside p0 p1) (fun r3 => (if r3 = true then some (0, 20) else if inr_ p1 p0.cell.length then some ((at_ p0.cell p1.toNat).v, 0) else none))
set_option maxRecDepth 100000 in
set_option maxHeartbeats 4000000 in
theorem cells_Shared_Load_ok {z w : World} {L : List HProp} {p0 : T_cells_Shared} {p1 : Int} {B0 : Nat} {ca1 : Option Addr} {cc2 : Nat} {r0 : Int} {r1 : Int} (H : cells_Shared_Load p0 p1 = some (r0, r1)) (h : Fit z (sepL (ob110 B0 p0 ca1 cc2 :: ro107 ca1 cc2 p0.cell :: L)) w)  :
    Calls Try.prog 73 #[pA B0 0, vI p1] w fun e w => e = .returned (.tuple #[vI r0, vI r1]) ∧ Fit z (sepL (ob110 B0 p0 ca1 cc2 :: ro107 ca1 cc2 p0.cell :: L)) w := by
 unfold cells_Shared_Load at H
 refine enter Try.func73 rfl 16 rfl rfl [(0, pA B0 0), (1, vI p1)] ⟨rfl, rfl, trivial⟩ ?_
 intro j a hr
 refine sr ?_
 refine ovs [4, 5] [vI 0, vI 0] hr ⟨rfl, rfl⟩ (by kernel_rfl) ?_; clear hr a; intro a hr
 refine ln ?_
 refine wp_seq ?_
 refine sr ?_
 replace H := bd1 H; obtain ⟨r3, e4, H⟩ := H
 refine ovs [6, 7] [pA B0 0, vI p1] hr ⟨rfl, rfl⟩ (by kernel_rfl) ?_; clear hr a; intro a hr
 have hc := cells_Shared_outside_ok (H := e4) (h := h)
 refine op_call (wn rfl) rfl rfl hr (f := 103) (args := #[pA B0 0, vI p1]) (by kernel_rfl) hc ?_; clear hc h
 rintro _ w ⟨rfl, h⟩; refine ⟨_, rfl, ?_⟩
 clear hr a; intro a hr
 refine ln ?_
 by_cases c5 : r3 = true
 ·
  replace H := ifT c5 H
  refine cond_tt hr (b := r3) (c5) ?_
  refine sr ?_
  refine ovs [4, 5] [vI 0, vI 20] hr ⟨rfl, rfl⟩ (by kernel_rfl) ?_; clear hr a; intro a hr
  refine ln ?_
  refine wp_ret ?_
  refine then_ret ?_
  refine end_ret2 (v := vI 0) (v' := vI 20) rfl hr (by kernel_rfl) (by kernel_rfl) ?_
  replace H := ej2 H; obtain ⟨rfl, rfl⟩ := H
  exact ⟨rfl, h⟩
 ·
  replace H := ifF c5 H
  refine cond_ff hr (b := r3) (bF c5) ?_
  refine wp_skip ?_
  refine then_normal ?_
  refine sr ?_
  refine ovs [9, 10, 11] [pA B0 0, pA B0 0, pA B0 5] hr ⟨rfl, rfl⟩ (by kernel_rfl) ?_; clear hr a; intro a hr
  refine ld (wn rfl) hr (.slice ca1 p0.cell.length cc2) (h.cell 5 rfl) ?_; clear hr a; intro a hr
  replace H := gd H; obtain ⟨c6, H⟩ := H
  refine ov hr (vI p1) (by kernel_rfl) ?_; clear hr a; intro a hr
  refine opv (wn rfl) hr (pA (blk ca1) (p1.toNat * 1)) (ri_row (k := .i64) (E := 107) rfl (by kernel_rfl) (by kernel_rfl) (by kernel_rfl) (by kernel_rfl) (h.pick 1) c6) ?_; clear hr a; intro a hr
  refine op_call (wn rfl) rfl rfl hr (f := 104) (args := #[pA (blk ca1) (p1.toNat * 1)]) (by kernel_rfl) (a_load ((h.pick 1).row_cell enc_T_atomic_Int64_ok (f := 0) (at_ok c6) rfl)) ?_; rintro _ _ ⟨rfl, rfl⟩; refine ⟨_, rfl, ?_⟩; clear hr a; intro a hr
  refine ovs [4, 5] [vI ((at_ p0.cell p1.toNat).v), vI 0] hr ⟨rfl, rfl⟩ (by kernel_rfl) ?_; clear hr a; intro a hr
  refine ln ?_
  refine wp_ret ?_
  refine end_ret2 (v := vI ((at_ p0.cell p1.toNat).v)) (v' := vI 0) rfl hr (by kernel_rfl) (by kernel_rfl) ?_
  replace H := ej2 H; obtain ⟨rfl, rfl⟩ := H
  exact ⟨rfl, h⟩

/-- (*plunder/cells.Shared).Store -/
def cells_Shared_Store (p0 : T_cells_Shared) (p1 : Int) (p2 : Int) : Option (Int × T_cells_Shared) :=
  ob1 (cells_Shared_outside p0 p1) (fun r3 => (if r3 = true then some (20, p0) else if inr_ p1 p0.cell.length then some (0, { p0 with cell := p0.cell.set p1.toNat (⟨p2⟩ : T_atomic_Int64) }) else none))
set_option maxRecDepth 100000 in
set_option maxHeartbeats 4000000 in
theorem cells_Shared_Store_ok {z w : World} {L : List HProp} {p0 : T_cells_Shared} {p1 : Int} {p2 : Int} {B0 : Nat} {ca1 : Option Addr} {cc2 : Nat} {r0 : Int} {q0 : T_cells_Shared} (H : cells_Shared_Store p0 p1 p2 = some (r0, q0)) (h : Fit z (sepL (ob110 B0 p0 ca1 cc2 :: ro107 ca1 cc2 p0.cell :: L)) w)  :
    Calls Try.prog 74 #[pA B0 0, vI p1, vI p2] w fun e w => ∃ caq0_1 : Option Addr, ∃ ccq0_2 : Nat, e = .returned (vI r0) ∧ Fit z (sepL (ob110 B0 q0 caq0_1 ccq0_2 :: ro107 caq0_1 ccq0_2 q0.cell :: L)) w := by
 unfold cells_Shared_Store at H
 refine enter Try.func74 rfl 18 rfl rfl [(0, pA B0 0), (1, vI p1), (2, vI p2)] ⟨rfl, rfl, rfl, trivial⟩ ?_
 intro j a hr
 refine sr ?_
 refine ov hr (vI 0) (by kernel_rfl) ?_; clear hr a; intro a hr
 refine ln ?_
 refine wp_seq ?_
 refine sr ?_
 replace H := bd1 H; obtain ⟨r3, e4, H⟩ := H
 refine ovs [7, 8] [pA B0 0, vI p1] hr ⟨rfl, rfl⟩ (by kernel_rfl) ?_; clear hr a; intro a hr
 have hc := cells_Shared_outside_ok (H := e4) (h := h)
 refine op_call (wn rfl) rfl rfl hr (f := 103) (args := #[pA B0 0, vI p1]) (by kernel_rfl) hc ?_; clear hc h
 rintro _ w ⟨rfl, h⟩; refine ⟨_, rfl, ?_⟩
 clear hr a; intro a hr
 refine ln ?_
 by_cases c5 : r3 = true
 ·
  replace H := ifT c5 H
  refine cond_tt hr (b := r3) (c5) ?_
  refine sr ?_
  refine ov hr (vI 20) (by kernel_rfl) ?_; clear hr a; intro a hr
  refine ln ?_
  refine wp_ret ?_
  refine then_ret ?_
  refine end_ret1 (v := vI 20) rfl hr (by kernel_rfl) ?_
  replace H := ej2 H; obtain ⟨rfl, rfl⟩ := H
  exact ⟨ca1, cc2, rfl, h⟩
 ·
  replace H := ifF c5 H
  refine cond_ff hr (b := r3) (bF c5) ?_
  refine wp_skip ?_
  refine then_normal ?_
  refine sr ?_
  refine ovs [10, 11, 12] [pA B0 0, pA B0 0, pA B0 5] hr ⟨rfl, rfl⟩ (by kernel_rfl) ?_; clear hr a; intro a hr
  refine ld (wn rfl) hr (.slice ca1 p0.cell.length cc2) (h.cell 5 rfl) ?_; clear hr a; intro a hr
  replace H := gd H; obtain ⟨c6, H⟩ := H
  refine ov hr (vI p1) (by kernel_rfl) ?_; clear hr a; intro a hr
  refine opv (wn rfl) hr (pA (blk ca1) (p1.toNat * 1)) (ri_row (k := .i64) (E := 107) rfl (by kernel_rfl) (by kernel_rfl) (by kernel_rfl) (by kernel_rfl) (h.pick 1) c6) ?_; clear hr a; intro a hr
  refine ov hr (vI p2) (by kernel_rfl) ?_; clear hr a; intro a hr
  replace h : Fit z (sepL (ro107 ca1 cc2 p0.cell :: ob110 B0 p0 ca1 cc2 :: L)) _ := h.sel 2 [1, 0] (by kernel_rfl) (by kernel_rfl)
  refine op_set_row (wn rfl) rfl rfl hr enc_T_atomic_Int64_ok h (i := p1.toNat) (q := 0) (vI p2) (.tuple #[]) (x := (at_ p0.cell p1.toNat)) (y := (⟨p2⟩ : T_atomic_Int64)) (at_ok c6) rfl rfl (by kernel_rfl) (fun hc hz => a_store hc hz) ?_; clear h hr a; intro w a h hr
  refine wpList_nil ?_
  replace h : Fit z (sepL (rowOf 107 1 enc_T_atomic_Int64 (.slice ca1 p0.cell.length cc2) (p0.cell.set p1.toNat (⟨p2⟩ : T_atomic_Int64)) :: ob110 B0 p0 ca1 cc2 :: L)) _ := h
  refine then_normal ?_
  refine sr ?_
  refine ov hr (vI 0) (by kernel_rfl) ?_; clear hr a; intro a hr
  refine ln ?_
  refine wp_ret ?_
  refine end_ret1 (v := vI 0) rfl hr (by kernel_rfl) ?_
  have hn6 := h.row_n
  replace h : Fit z (sepL (ro107 ca1 cc2 (p0.cell.set p1.toNat (⟨p2⟩ : T_atomic_Int64)) :: pts B0 (.cells #[vI p0.ledger_size, vI p0.ledger_mark, .int .i32 p0.lock_mu_state, .int .u32 p0.lock_mu_sema, vI p0.given_v, .slice ca1 ((p0.cell.set p1.toNat (⟨p2⟩ : T_atomic_Int64)).length) cc2] 110) :: L)) w := (congrArg (fun q_ : Nat => Fit z (sepL (rowOf 107 1 enc_T_atomic_Int64 (.slice ca1 q_ cc2) (p0.cell.set p1.toNat (⟨p2⟩ : T_atomic_Int64)) :: pts B0 (.cells #[vI p0.ledger_size, vI p0.ledger_mark, .int .i32 p0.lock_mu_state, .int .u32 p0.lock_mu_sema, vI p0.given_v, .slice ca1 q_ cc2] 110) :: L)) w) h.row_n).mp h
  replace h : Fit z (sepL (pts B0 (.cells #[vI p0.ledger_size, vI p0.ledger_mark, .int .i32 p0.lock_mu_state, .int .u32 p0.lock_mu_sema, vI p0.given_v, .slice ca1 ((p0.cell.set p1.toNat (⟨p2⟩ : T_atomic_Int64)).length) cc2] 110) :: ro107 ca1 cc2 (p0.cell.set p1.toNat (⟨p2⟩ : T_atomic_Int64)) :: L)) _ := h.sel 2 [1, 0] (by kernel_rfl) (by kernel_rfl)
  replace H := ej2 H; obtain ⟨rfl, rfl⟩ := H
  exact ⟨ca1, cc2, rfl, h⟩

/-- (*plunder/cells.Shared).CAS -/
def cells_Shared_CAS (p0 : T_cells_Shared) (p1 : Int) (p2 : Int) (p3 : Int) : Option (Bool × Int × T_cells_Shared) :=
  ob1 (cells_Shared_outside p0 p1) (fun r3 => (if r3 = true then some (false, 20, p0) else if inr_ p1 p0.cell.length then (if ((at_ p0.cell p1.toNat).v) = p2 then some (true, 0, { p0 with cell := p0.cell.set p1.toNat (⟨p3⟩ : T_atomic_Int64) }) else some (false, 0, p0)) else none))
set_option maxRecDepth 100000 in
set_option maxHeartbeats 4000000 in
theorem cells_Shared_CAS_ok {z w : World} {L : List HProp} {p0 : T_cells_Shared} {p1 : Int} {p2 : Int} {p3 : Int} {B0 : Nat} {ca1 : Option Addr} {cc2 : Nat} {r0 : Bool} {r1 : Int} {q0 : T_cells_Shared} (H : cells_Shared_CAS p0 p1 p2 p3 = some (r0, r1, q0)) (h : Fit z (sepL (ob110 B0 p0 ca1 cc2 :: ro107 ca1 cc2 p0.cell :: L)) w)  :
    Calls Try.prog 75 #[pA B0 0, vI p1, vI p2, vI p3] w fun e w => ∃ caq0_1 : Option Addr, ∃ ccq0_2 : Nat, e = .returned (.tuple #[vB r0, vI r1]) ∧ Fit z (sepL (ob110 B0 q0 caq0_1 ccq0_2 :: ro107 caq0_1 ccq0_2 q0.cell :: L)) w := by
 unfold cells_Shared_CAS at H
 refine enter Try.func75 rfl 22 rfl rfl [(0, pA B0 0), (1, vI p1), (2, vI p2), (3, vI p3)] ⟨rfl, rfl, rfl, rfl, trivial⟩ ?_
 intro j a hr
 refine sr ?_
 refine ovs [8, 9] [vB false, vI 0] hr ⟨rfl, rfl⟩ (by kernel_rfl) ?_; clear hr a; intro a hr
 refine ln ?_
 refine wp_seq ?_
 refine sr ?_
 replace H := bd1 H; obtain ⟨r3, e4, H⟩ := H
 refine ovs [10, 11] [pA B0 0, vI p1] hr ⟨rfl, rfl⟩ (by kernel_rfl) ?_; clear hr a; intro a hr
 have hc := cells_Shared_outside_ok (H := e4) (h := h)
 refine op_call (wn rfl) rfl rfl hr (f := 103) (args := #[pA B0 0, vI p1]) (by kernel_rfl) hc ?_; clear hc h
 rintro _ w ⟨rfl, h⟩; refine ⟨_, rfl, ?_⟩
 clear hr a; intro a hr
 refine ln ?_
 by_cases c5 : r3 = true
 ·
  replace H := ifT c5 H
  refine cond_tt hr (b := r3) (c5) ?_
  refine sr ?_
  refine ovs [8, 9] [vB false, vI 20] hr ⟨rfl, rfl⟩ (by kernel_rfl) ?_; clear hr a; intro a hr
  refine ln ?_
  refine wp_ret ?_
  refine then_ret ?_
  refine end_ret2 (v := vB false) (v' := vI 20) rfl hr (by kernel_rfl) (by kernel_rfl) ?_
  replace H := ej3 H; obtain ⟨rfl, rfl, rfl⟩ := H
  exact ⟨ca1, cc2, rfl, h⟩
 ·
  replace H := ifF c5 H
  refine cond_ff hr (b := r3) (bF c5) ?_
  refine wp_skip ?_
  refine then_normal ?_
  refine sr ?_
  refine ovs [13, 14, 15] [pA B0 0, pA B0 0, pA B0 5] hr ⟨rfl, rfl⟩ (by kernel_rfl) ?_; clear hr a; intro a hr
  refine ld (wn rfl) hr (.slice ca1 p0.cell.length cc2) (h.cell 5 rfl) ?_; clear hr a; intro a hr
  replace H := gd H; obtain ⟨c6, H⟩ := H
  refine ov hr (vI p1) (by kernel_rfl) ?_; clear hr a; intro a hr
  refine opv (wn rfl) hr (pA (blk ca1) (p1.toNat * 1)) (ri_row (k := .i64) (E := 107) rfl (by kernel_rfl) (by kernel_rfl) (by kernel_rfl) (by kernel_rfl) (h.pick 1) c6) ?_; clear hr a; intro a hr
  refine ovs [19, 20] [vI p2, vI p3] hr ⟨rfl, rfl⟩ (by kernel_rfl) ?_; clear hr a; intro a hr
  by_cases c7 : ((at_ p0.cell p1.toNat).v) = p2
  ·
   replace H := ifT c7 H
   replace h : Fit z (sepL (ro107 ca1 cc2 p0.cell :: ob110 B0 p0 ca1 cc2 :: L)) _ := h.sel 2 [1, 0] (by kernel_rfl) (by kernel_rfl)
   refine op_set_row (wn rfl) rfl rfl hr enc_T_atomic_Int64_ok h (i := p1.toNat) (q := 0) (vI p3) (vB true) (x := (at_ p0.cell p1.toNat)) (y := (⟨p3⟩ : T_atomic_Int64)) (at_ok c6) rfl rfl (by kernel_rfl) (fun hc hz => a_cas hc hz c7) ?_; clear h hr a; intro w a h hr
   refine ovs [8, 9] [vB true, vI 0] hr ⟨rfl, rfl⟩ (by kernel_rfl) ?_; clear hr a; intro a hr
   refine wpList_nil ?_
   replace h : Fit z (sepL (rowOf 107 1 enc_T_atomic_Int64 (.slice ca1 p0.cell.length cc2) (p0.cell.set p1.toNat (⟨p3⟩ : T_atomic_Int64)) :: ob110 B0 p0 ca1 cc2 :: L)) _ := h
   refine then_normal ?_
   refine wp_ret ?_
   refine end_ret2 (v := vB true) (v' := vI 0) rfl hr (by kernel_rfl) (by kernel_rfl) ?_
   have hn7 := h.row_n
   replace h : Fit z (sepL (ro107 ca1 cc2 (p0.cell.set p1.toNat (⟨p3⟩ : T_atomic_Int64)) :: pts B0 (.cells #[vI p0.ledger_size, vI p0.ledger_mark, .int .i32 p0.lock_mu_state, .int .u32 p0.lock_mu_sema, vI p0.given_v, .slice ca1 ((p0.cell.set p1.toNat (⟨p3⟩ : T_atomic_Int64)).length) cc2] 110) :: L)) w := (congrArg (fun q_ : Nat => Fit z (sepL (rowOf 107 1 enc_T_atomic_Int64 (.slice ca1 q_ cc2) (p0.cell.set p1.toNat (⟨p3⟩ : T_atomic_Int64)) :: pts B0 (.cells #[vI p0.ledger_size, vI p0.ledger_mark, .int .i32 p0.lock_mu_state, .int .u32 p0.lock_mu_sema, vI p0.given_v, .slice ca1 q_ cc2] 110) :: L)) w) h.row_n).mp h
   replace h : Fit z (sepL (pts B0 (.cells #[vI p0.ledger_size, vI p0.ledger_mark, .int .i32 p0.lock_mu_state, .int .u32 p0.lock_mu_sema, vI p0.given_v, .slice ca1 ((p0.cell.set p1.toNat (⟨p3⟩ : T_atomic_Int64)).length) cc2] 110) :: ro107 ca1 cc2 (p0.cell.set p1.toNat (⟨p3⟩ : T_atomic_Int64)) :: L)) _ := h.sel 2 [1, 0] (by kernel_rfl) (by kernel_rfl)
   replace H := ej3 H; obtain ⟨rfl, rfl, rfl⟩ := H
   exact ⟨ca1, cc2, rfl, h⟩
  ·
   replace H := ifF c7 H
   refine op_call (wn rfl) rfl rfl hr (f := 106) (args := #[pA (blk ca1) (p1.toNat * 1), vI p2, vI p3]) (by kernel_rfl) (a_miss ((h.pick 1).row_cell enc_T_atomic_Int64_ok (f := 0) (at_ok c6) rfl) ((h.pick 1).row_free (Nat.lt_of_le_of_lt (Nat.zero_le _) (at_okL c6)) _) c7) ?_; rintro _ _ ⟨rfl, rfl⟩; refine ⟨_, rfl, ?_⟩; clear hr a; intro a hr
   refine ovs [8, 9] [vB false, vI 0] hr ⟨rfl, rfl⟩ (by kernel_rfl) ?_; clear hr a; intro a hr
   refine ln ?_
   refine wp_ret ?_
   refine end_ret2 (v := vB false) (v' := vI 0) rfl hr (by kernel_rfl) (by kernel_rfl) ?_
   replace H := ej3 H; obtain ⟨rfl, rfl, rfl⟩ := H
   exact ⟨ca1, cc2, rfl, h⟩

/-- (*plunder/cells.Shared).Add -/
def cells_Shared_Add (p0 : T_cells_Shared) (p1 : Int) (p2 : Int) : Option (Int × Int × T_cells_Shared) :=
  ob1 (cells_Shared_outside p0 p1) (fun r3 => (if r3 = true then some (0, 20, p0) else if inr_ p1 p0.cell.length then some (wi (((at_ p0.cell p1.toNat).v) + p2), 0, { p0 with cell := p0.cell.set p1.toNat (⟨wi (((at_ p0.cell p1.toNat).v) + p2)⟩ : T_atomic_Int64) }) else none))
set_option maxRecDepth 100000 in
set_option maxHeartbeats 4000000 in
theorem cells_Shared_Add_ok {z w : World} {L : List HProp} {p0 : T_cells_Shared} {p1 : Int} {p2 : Int} {B0 : Nat} {ca1 : Option Addr} {cc2 : Nat} {r0 : Int} {r1 : Int} {q0 : T_cells_Shared} (H : cells_Shared_Add p0 p1 p2 = some (r0, r1, q0)) (h : Fit z (sepL (ob110 B0 p0 ca1 cc2 :: ro107 ca1 cc2 p0.cell :: L)) w)  :
    Calls Try.prog 76 #[pA B0 0, vI p1, vI p2] w fun e w => ∃ caq0_1 : Option Addr, ∃ ccq0_2 : Nat, e = .returned (.tuple #[vI r0, vI r1]) ∧ Fit z (sepL (ob110 B0 q0 caq0_1 ccq0_2 :: ro107 caq0_1 ccq0_2 q0.cell :: L)) w := by
 unfold cells_Shared_Add at H
 refine enter Try.func76 rfl 19 rfl rfl [(0, pA B0 0), (1, vI p1), (2, vI p2)] ⟨rfl, rfl, rfl, trivial⟩ ?_
 intro j a hr
 refine sr ?_
 refine ovs [6, 7] [vI 0, vI 0] hr ⟨rfl, rfl⟩ (by kernel_rfl) ?_; clear hr a; intro a hr
 refine ln ?_
 refine wp_seq ?_
 refine sr ?_
 replace H := bd1 H; obtain ⟨r3, e4, H⟩ := H
 refine ovs [8, 9] [pA B0 0, vI p1] hr ⟨rfl, rfl⟩ (by kernel_rfl) ?_; clear hr a; intro a hr
 have hc := cells_Shared_outside_ok (H := e4) (h := h)
 refine op_call (wn rfl) rfl rfl hr (f := 103) (args := #[pA B0 0, vI p1]) (by kernel_rfl) hc ?_; clear hc h
 rintro _ w ⟨rfl, h⟩; refine ⟨_, rfl, ?_⟩
 clear hr a; intro a hr
 refine ln ?_
 by_cases c5 : r3 = true
 ·
  replace H := ifT c5 H
  refine cond_tt hr (b := r3) (c5) ?_
  refine sr ?_
  refine ovs [6, 7] [vI 0, vI 20] hr ⟨rfl, rfl⟩ (by kernel_rfl) ?_; clear hr a; intro a hr
  refine ln ?_
  refine wp_ret ?_
  refine then_ret ?_
  refine end_ret2 (v := vI 0) (v' := vI 20) rfl hr (by kernel_rfl) (by kernel_rfl) ?_
  replace H := ej3 H; obtain ⟨rfl, rfl, rfl⟩ := H
  exact ⟨ca1, cc2, rfl, h⟩
 ·
  replace H := ifF c5 H
  refine cond_ff hr (b := r3) (bF c5) ?_
  refine wp_skip ?_
  refine then_normal ?_
  refine sr ?_
  refine ovs [11, 12, 13] [pA B0 0, pA B0 0, pA B0 5] hr ⟨rfl, rfl⟩ (by kernel_rfl) ?_; clear hr a; intro a hr
  refine ld (wn rfl) hr (.slice ca1 p0.cell.length cc2) (h.cell 5 rfl) ?_; clear hr a; intro a hr
  replace H := gd H; obtain ⟨c6, H⟩ := H
  refine ov hr (vI p1) (by kernel_rfl) ?_; clear hr a; intro a hr
  refine opv (wn rfl) hr (pA (blk ca1) (p1.toNat * 1)) (ri_row (k := .i64) (E := 107) rfl (by kernel_rfl) (by kernel_rfl) (by kernel_rfl) (by kernel_rfl) (h.pick 1) c6) ?_; clear hr a; intro a hr
  refine ov hr (vI p2) (by kernel_rfl) ?_; clear hr a; intro a hr
  replace h : Fit z (sepL (ro107 ca1 cc2 p0.cell :: ob110 B0 p0 ca1 cc2 :: L)) _ := h.sel 2 [1, 0] (by kernel_rfl) (by kernel_rfl)
  refine op_set_row (wn rfl) rfl rfl hr enc_T_atomic_Int64_ok h (i := p1.toNat) (q := 0) (vI (wi (((at_ p0.cell p1.toNat).v) + p2))) (vI (wi (((at_ p0.cell p1.toNat).v) + p2))) (x := (at_ p0.cell p1.toNat)) (y := (⟨wi (((at_ p0.cell p1.toNat).v) + p2)⟩ : T_atomic_Int64)) (at_ok c6) rfl rfl (by kernel_rfl) (fun hc hz => a_add hc hz) ?_; clear h hr a; intro w a h hr
  refine ovs [6, 7] [vI (wi (((at_ p0.cell p1.toNat).v) + p2)), vI 0] hr ⟨rfl, rfl⟩ (by kernel_rfl) ?_; clear hr a; intro a hr
  refine wpList_nil ?_
  replace h : Fit z (sepL (rowOf 107 1 enc_T_atomic_Int64 (.slice ca1 p0.cell.length cc2) (p0.cell.set p1.toNat (⟨wi (((at_ p0.cell p1.toNat).v) + p2)⟩ : T_atomic_Int64)) :: ob110 B0 p0 ca1 cc2 :: L)) _ := h
  refine then_normal ?_
  refine wp_ret ?_
  refine end_ret2 (v := vI (wi (((at_ p0.cell p1.toNat).v) + p2))) (v' := vI 0) rfl hr (by kernel_rfl) (by kernel_rfl) ?_
  have hn6 := h.row_n
  replace h : Fit z (sepL (ro107 ca1 cc2 (p0.cell.set p1.toNat (⟨wi (((at_ p0.cell p1.toNat).v) + p2)⟩ : T_atomic_Int64)) :: pts B0 (.cells #[vI p0.ledger_size, vI p0.ledger_mark, .int .i32 p0.lock_mu_state, .int .u32 p0.lock_mu_sema, vI p0.given_v, .slice ca1 ((p0.cell.set p1.toNat (⟨wi (((at_ p0.cell p1.toNat).v) + p2)⟩ : T_atomic_Int64)).length) cc2] 110) :: L)) w := (congrArg (fun q_ : Nat => Fit z (sepL (rowOf 107 1 enc_T_atomic_Int64 (.slice ca1 q_ cc2) (p0.cell.set p1.toNat (⟨wi (((at_ p0.cell p1.toNat).v) + p2)⟩ : T_atomic_Int64)) :: pts B0 (.cells #[vI p0.ledger_size, vI p0.ledger_mark, .int .i32 p0.lock_mu_state, .int .u32 p0.lock_mu_sema, vI p0.given_v, .slice ca1 q_ cc2] 110) :: L)) w) h.row_n).mp h
  replace h : Fit z (sepL (pts B0 (.cells #[vI p0.ledger_size, vI p0.ledger_mark, .int .i32 p0.lock_mu_state, .int .u32 p0.lock_mu_sema, vI p0.given_v, .slice ca1 ((p0.cell.set p1.toNat (⟨wi (((at_ p0.cell p1.toNat).v) + p2)⟩ : T_atomic_Int64)).length) cc2] 110) :: ro107 ca1 cc2 (p0.cell.set p1.toNat (⟨wi (((at_ p0.cell p1.toNat).v) + p2)⟩ : T_atomic_Int64)) :: L)) _ := h.sel 2 [1, 0] (by kernel_rfl) (by kernel_rfl)
  replace H := ej3 H; obtain ⟨rfl, rfl, rfl⟩ := H
  exact ⟨ca1, cc2, rfl, h⟩

/-- (*plunder/cells.ledger).refuse -/
def cells_ledger_refuse_Shared (p0 : T_cells_Shared) (p1 : Int) : Option (Int) :=
  (if p1 < (1 : Int) then some 21 else (if p1 > (wi (p0.ledger_size - p0.ledger_mark)) then some 22 else some 0))
set_option maxRecDepth 100000 in
set_option maxHeartbeats 4000000 in
theorem cells_ledger_refuse_Shared_ok {z w : World} {L : List HProp} {p0 : T_cells_Shared} {p1 : Int} {B0 : Nat} {ca1 : Option Addr} {cc2 : Nat} {r0 : Int} (H : cells_ledger_refuse_Shared p0 p1 = some r0) (h : Fit z (sepL (ob110 B0 p0 ca1 cc2 :: ro107 ca1 cc2 p0.cell :: L)) w)  :
    Calls Try.prog 62 #[pA B0 0, vI p1] w fun e w => e = .returned (vI r0) ∧ Fit z (sepL (ob110 B0 p0 ca1 cc2 :: ro107 ca1 cc2 p0.cell :: L)) w := by
 unfold cells_ledger_refuse_Shared at H
 refine enter Try.func62 rfl 22 rfl rfl [(0, pA B0 0), (1, vI p1)] ⟨rfl, rfl, trivial⟩ ?_
 intro j a hr
 refine sr ?_
 refine ov hr (vI 0) (by kernel_rfl) ?_; clear hr a; intro a hr
 refine ln ?_
 refine wp_seq ?_
 refine sr ?_
 refine ovs [5, 6] [vI p1, vB (decide (p1 < (1 : Int)))] hr ⟨rfl, rfl⟩ (by kernel_rfl) ?_; clear hr a; intro a hr
 refine ln ?_
 by_cases c3 : p1 < (1 : Int)
 ·
  replace H := ifT c3 H
  refine cond_tt hr (b := (decide (p1 < (1 : Int)))) (decide_eq_true c3) ?_
  refine sr ?_
  refine ov hr (vI 21) (by kernel_rfl) ?_; clear hr a; intro a hr
  refine ln ?_
  refine wp_ret ?_
  refine then_ret ?_
  refine end_ret1 (v := vI 21) rfl hr (by kernel_rfl) ?_
  replace H := ej1 H; subst H
  exact ⟨rfl, h⟩
 ·
  replace H := ifF c3 H
  refine cond_ff hr (b := (decide (p1 < (1 : Int)))) (decide_eq_false c3) ?_
  refine wp_skip ?_
  refine then_normal ?_
  refine wp_seq ?_
  refine wp_seq ?_
  refine reg_E (fun w => heldC w B0 0 ([vI p0.ledger_size]) ∧ heldC w B0 1 ([vI p0.ledger_mark]) ∧ True) [1, 5, 6, 9, 10] h (by kernel_rfl) ?_; intro w h
  change wpAnyE _ _ _ _ _ _ 15 (Array.replicate 15 false) a w
  have hgo : ∀ w w', CellsGo w w' → (heldC w B0 0 ([vI p0.ledger_size]) ∧ heldC w B0 1 ([vI p0.ledger_mark]) ∧ True) → heldC w' B0 0 ([vI p0.ledger_size]) ∧ heldC w' B0 1 ([vI p0.ledger_mark]) ∧ True := fun w w' g hD => ⟨heldC_go _ _ _ _ _ g hD.1, heldC_go _ _ _ _ _ g hD.2.1, trivial⟩
  refine ev 14 0 rfl (by kernel_rfl) (wn rfl) hr (pA B0 0) (fun w => by kernel_rfl) ?_; clear hr a; intro a hr
  refine evD hgo ⟨⟨h.cell 0 rfl, trivial⟩, ⟨h.cell 1 rfl, trivial⟩, trivial⟩ 13 1 rfl (by kernel_rfl) (wn rfl) hr (vB false) (fun w => by kernel_rfl) ?_; clear hr a; intro a hr
  refine ev 12 2 rfl (by kernel_rfl) (wn rfl) hr (vB false) (fun w => by kernel_rfl) ?_; clear hr a; intro a hr
  refine ev 11 3 rfl (by kernel_rfl) (wgt hr (c := false) rfl) hr (vI p1) (fun w => by kernel_rfl) ?_; clear hr a; intro a hr
  refine ev 10 4 rfl (by kernel_rfl) (wgt hr (c := false) rfl) hr (pA B0 0) (fun w => by kernel_rfl) ?_; clear hr a; intro a hr
  refine evD hgo ⟨⟨h.cell 0 rfl, trivial⟩, ⟨h.cell 1 rfl, trivial⟩, trivial⟩ 9 5 rfl (by kernel_rfl) (wgt hr (c := false) rfl) hr (pA B0 0) (fun w => by kernel_rfl) ?_; clear hr a; intro a hr
  refine evD hgo ⟨⟨h.cell 0 rfl, trivial⟩, ⟨h.cell 1 rfl, trivial⟩, trivial⟩ 8 6 rfl (by kernel_rfl) (wgt hr (c := false) rfl) hr (pA B0 0) (fun w => by kernel_rfl) ?_; clear hr a; intro a hr
  refine ev 7 8 rfl (by kernel_rfl) (wgt hr (c := false) rfl) hr (pA B0 0) (fun w => by kernel_rfl) ?_; clear hr a; intro a hr
  refine evD hgo ⟨⟨h.cell 0 rfl, trivial⟩, ⟨h.cell 1 rfl, trivial⟩, trivial⟩ 6 9 rfl (by kernel_rfl) (wgt hr (c := false) rfl) hr (pA B0 0) (fun w => by kernel_rfl) ?_; clear hr a; intro a hr
  refine evD hgo ⟨⟨h.cell 0 rfl, trivial⟩, ⟨h.cell 1 rfl, trivial⟩, trivial⟩ 5 10 rfl (by kernel_rfl) (wgt hr (c := false) rfl) hr (pA B0 1) (fun w => by kernel_rfl) ?_; clear hr a; intro a hr
  refine el [1, 5, 6, 9, 10] (b := B0) (off := 0) (cs := [vI p0.ledger_size]) (fun _ hk => ⟨hk, fun w hD => hD.1⟩) 4 7 rfl (by kernel_rfl) (wgt hr (c := false) rfl) hr (vI p0.ledger_size) ⟨h.cell 0 rfl, trivial⟩ (fun w hc => rl rfl (by kernel_rfl) (by kernel_rfl) hc.1) ?_; clear hr a; intro a hr
  refine el [1, 5, 6, 9, 10] (b := B0) (off := 1) (cs := [vI p0.ledger_mark]) (fun _ hk => ⟨hk, fun w hD => hD.2.1⟩) 3 11 rfl (by kernel_rfl) (wgt hr (c := false) rfl) hr (vI p0.ledger_mark) ⟨h.cell 1 rfl, trivial⟩ (fun w hc => rl rfl (by kernel_rfl) (by kernel_rfl) hc.1) ?_; clear hr a; intro a hr
  refine ev 2 12 rfl (by kernel_rfl) (wgt hr (c := false) rfl) hr (vI (wi (p0.ledger_size - p0.ledger_mark))) (fun w => by kernel_rfl) ?_; clear hr a; intro a hr
  refine ev 1 13 rfl (by kernel_rfl) (wgt hr (c := false) rfl) hr (vB (decide (p1 > (wi (p0.ledger_size - p0.ledger_mark))))) (fun w => by kernel_rfl) ?_; clear hr a; intro a hr
  refine ev 0 14 rfl (by kernel_rfl) (wn rfl) hr (vB (decide (p1 > (wi (p0.ledger_size - p0.ledger_mark))))) (fun w => by kernel_rfl) ?_; clear hr a; intro a hr
  refine e_end (by kernel_rfl) ?_
  refine then_normal ?_
  by_cases c4 : p1 > (wi (p0.ledger_size - p0.ledger_mark))
  ·
   replace H := ifT c4 H
   refine cond_tt hr (b := (decide (p1 > (wi (p0.ledger_size - p0.ledger_mark))))) (decide_eq_true c4) ?_
   refine sr ?_
   refine ov hr (vI 22) (by kernel_rfl) ?_; clear hr a; intro a hr
   refine ln ?_
   refine wp_ret ?_
   refine then_ret ?_
   refine end_ret1 (v := vI 22) rfl hr (by kernel_rfl) ?_
   replace H := ej1 H; subst H
   exact ⟨rfl, h⟩
  ·
   replace H := ifF c4 H
   refine cond_ff hr (b := (decide (p1 > (wi (p0.ledger_size - p0.ledger_mark))))) (decide_eq_false c4) ?_
   refine wp_skip ?_
   refine then_normal ?_
   refine sr ?_
   refine ov hr (vI 0) (by kernel_rfl) ?_; clear hr a; intro a hr
   refine ln ?_
   refine wp_ret ?_
   refine end_ret1 (v := vI 0) rfl hr (by kernel_rfl) ?_
   replace H := ej1 H; subst H
   exact ⟨rfl, h⟩

/-- (*plunder/cells.ledger).take -/
def cells_ledger_take_Shared (p0 : T_cells_Shared) (p1 : Int) : Option (Int × T_cells_Shared) :=
  some (p0.ledger_mark, { p0 with ledger_mark := wi (p0.ledger_mark + p1) })
set_option maxRecDepth 100000 in
set_option maxHeartbeats 4000000 in
theorem cells_ledger_take_Shared_ok {z w : World} {L : List HProp} {p0 : T_cells_Shared} {p1 : Int} {B0 : Nat} {ca1 : Option Addr} {cc2 : Nat} {r0 : Int} {q0 : T_cells_Shared} (H : cells_ledger_take_Shared p0 p1 = some (r0, q0)) (h : Fit z (sepL (ob110 B0 p0 ca1 cc2 :: ro107 ca1 cc2 p0.cell :: L)) w)  :
    Calls Try.prog 63 #[pA B0 0, vI p1] w fun e w => ∃ caq0_1 : Option Addr, ∃ ccq0_2 : Nat, e = .returned (vI r0) ∧ Fit z (sepL (ob110 B0 q0 caq0_1 ccq0_2 :: ro107 caq0_1 ccq0_2 q0.cell :: L)) w := by
 unfold cells_ledger_take_Shared at H
 refine enter Try.func63 rfl 19 rfl rfl [(0, pA B0 0), (1, vI p1)] ⟨rfl, rfl, trivial⟩ ?_
 intro j a hr
 refine sr ?_
 refine ov hr (vI 0) (by kernel_rfl) ?_; clear hr a; intro a hr
 refine ln ?_
 refine sr ?_
 refine ovs [6, 7, 8] [pA B0 0, pA B0 0, pA B0 1] hr ⟨rfl, rfl⟩ (by kernel_rfl) ?_; clear hr a; intro a hr
 refine ld (wn rfl) hr (vI p0.ledger_mark) (h.cell 1 rfl) ?_; clear hr a; intro a hr
 refine ov hr (vI p0.ledger_mark) (by kernel_rfl) ?_; clear hr a; intro a hr
 refine ln ?_
 refine sr ?_
 refine ovs [10, 11, 12] [pA B0 0, pA B0 0, pA B0 1] hr ⟨rfl, rfl⟩ (by kernel_rfl) ?_; clear hr a; intro a hr
 refine ld (wn rfl) hr (vI p0.ledger_mark) (h.cell 1 rfl) ?_; clear hr a; intro a hr
 refine ovs [14, 15, 16, 17] [vI p1, vI (wi (p0.ledger_mark + p1)), pA B0 0, pA B0 1] hr ⟨rfl, rfl⟩ (by kernel_rfl) ?_; clear hr a; intro a hr
 refine op_store (wn rfl) rfl hr rfl (by kernel_rfl) (by kernel_rfl) (v := vI (wi (p0.ledger_mark + p1))) rfl rfl (by kernel_rfl) h (i := 1) rfl ?_; clear h; intro w h
 refine wpList_nil ?_
 replace h : Fit z (sepL (pts B0 (.cells #[vI p0.ledger_size, vI (wi (p0.ledger_mark + p1)), .int .i32 p0.lock_mu_state, .int .u32 p0.lock_mu_sema, vI p0.given_v, .slice ca1 p0.cell.length cc2] 110) :: ro107 ca1 cc2 p0.cell :: L)) _ := h
 refine then_normal ?_
 refine sr ?_
 refine ovs [18, 4] [vI p0.ledger_mark, vI p0.ledger_mark] hr ⟨rfl, rfl⟩ (by kernel_rfl) ?_; clear hr a; intro a hr
 refine ln ?_
 refine wp_ret ?_
 refine end_ret1 (v := vI p0.ledger_mark) rfl hr (by kernel_rfl) ?_
 replace H := ej2 H; obtain ⟨rfl, rfl⟩ := H
 exact ⟨ca1, cc2, rfl, h⟩

/-- (*plunder/cells.Shared).Reserve -/
def cells_Shared_Reserve (p0 : T_cells_Shared) (p1 : Int) : Option (Int × Int × T_cells_Shared) :=
  if p0.lock_mu_state = 0 then ob1 (cells_ledger_refuse_Shared ({ p0 with lock_mu_state := 1 }) p1) (fun r4 => (if r4 = (0 : Int) then ob2 (cells_ledger_take_Shared ({ p0 with lock_mu_state := 1 }) p1) (fun r7 S8 => if S8.lock_mu_state = 1 then some (r7, 0, { S8 with lock_mu_state := 0, given_v := wi (r7 + p1) }) else none) else some (0, r4, { p0 with lock_mu_state := 0 }))) else none
set_option maxRecDepth 100000 in
set_option maxHeartbeats 4000000 in
theorem cells_Shared_Reserve_ok {z w : World} {L : List HProp} {p0 : T_cells_Shared} {p1 : Int} {B0 : Nat} {ca1 : Option Addr} {cc2 : Nat} {r0 : Int} {r1 : Int} {q0 : T_cells_Shared} (H : cells_Shared_Reserve p0 p1 = some (r0, r1, q0)) (h : Fit z (sepL (ob110 B0 p0 ca1 cc2 :: ro107 ca1 cc2 p0.cell :: L)) w)  :
    Calls Try.prog 77 #[pA B0 0, vI p1] w fun e w => ∃ caq0_1 : Option Addr, ∃ ccq0_2 : Nat, e = .returned (.tuple #[vI r0, vI r1]) ∧ Fit z (sepL (ob110 B0 q0 caq0_1 ccq0_2 :: ro107 caq0_1 ccq0_2 q0.cell :: L)) w := by
 unfold cells_Shared_Reserve at H
 refine enterD Try.func77 rfl 42 rfl rfl [(0, pA B0 0), (1, vI p1)] ⟨rfl, rfl, trivial⟩ ?_
 intro j a hr
 refine sr ?_
 refine ovs [4, 5] [vI 0, vI 0] hr ⟨rfl, rfl⟩ (by kernel_rfl) ?_; clear hr a; intro a hr
 refine ln ?_
 refine wp_seq ?_
 refine sr ?_
 refine ovs [9, 10] [pA B0 0, vB false] hr ⟨rfl, rfl⟩ (by kernel_rfl) ?_; clear hr a; intro a hr
 refine ln ?_
 refine cond_ff hr (b := false) rfl ?_
 refine wp_skip ?_
 refine then_normal ?_
 refine sr ?_
 replace H := gd H; obtain ⟨c3, H⟩ := H
 refine ovs [14, 15, 16] [pA B0 0, pA B0 0, pA B0 2] hr ⟨rfl, rfl⟩ (by kernel_rfl) ?_; clear hr a; intro a hr
 refine op_lock muLib (wn rfl) rfl rfl hr h (i := 2) (cs' := #[vI p0.ledger_size, vI p0.ledger_mark, .int .i32 1, .int .u32 p0.lock_mu_sema, vI p0.given_v, .slice ca1 p0.cell.length cc2]) (congrArg (fun q => some (Value.int .i32 q)) c3) rfl (by kernel_rfl) ?_; clear h hr a; intro w a h hr
 refine wpList_nil ?_
 replace h : Fit z (sepL (pts B0 (.cells #[vI p0.ledger_size, vI p0.ledger_mark, .int .i32 1, .int .u32 p0.lock_mu_sema, vI p0.given_v, .slice ca1 p0.cell.length cc2] 110) :: ro107 ca1 cc2 p0.cell :: L)) _ := h
 refine then_normal ?_
 refine sr ?_
 refine ovs [18, 19, 20] [pA B0 0, pA B0 0, pA B0 2] hr ⟨rfl, rfl⟩ (by kernel_rfl) ?_; clear hr a; intro a hr
 refine op_defer (wn rfl) rfl hr (q := { target := .fn (.func 83) #[], args := #[pA B0 2] }) (by kernel_rfl) ?_; clear hr a; intro a hr
 refine ln ?_
 refine wp_seq ?_
 refine sr ?_
 replace H := bd1 H; obtain ⟨r4, e5, H⟩ := H
 refine ovs [21, 22, 23, 24] [pA B0 0, pA B0 0, pA B0 0, vI p1] hr ⟨rfl, rfl⟩ (by kernel_rfl) ?_; clear hr a; intro a hr
 have hc := cells_ledger_refuse_Shared_ok (H := e5) (h := h)
 refine op_call (wn rfl) rfl rfl hr (f := 62) (args := #[pA B0 0, vI p1]) (by kernel_rfl) hc ?_; clear hc h
 rintro _ w ⟨rfl, h⟩; refine ⟨_, rfl, ?_⟩
 clear hr a; intro a hr
 refine ov hr (vI r4) (by kernel_rfl) ?_; clear hr a; intro a hr
 refine ln ?_
 refine sr ?_
 refine ovs [26, 27] [vI r4, vB (r4 != (0 : Int))] hr ⟨rfl, rfl⟩ (by kernel_rfl) ?_; clear hr a; intro a hr
 refine ln ?_
 by_cases c6 : r4 = (0 : Int)
 ·
  replace H := ifT c6 H
  refine cond_ff hr (b := (r4 != (0 : Int))) (bne_eq_false_iff_eq.mpr c6) ?_
  refine wp_skip ?_
  refine then_normal ?_
  refine sr ?_
  replace H := bd2 H; obtain ⟨r7, S8, e9, H⟩ := H
  refine ovs [29, 30, 31, 32] [pA B0 0, pA B0 0, pA B0 0, vI p1] hr ⟨rfl, rfl⟩ (by kernel_rfl) ?_; clear hr a; intro a hr
  have hc := cells_ledger_take_Shared_ok (H := e9) (h := h)
  refine op_call (wn rfl) rfl rfl hr (f := 63) (args := #[pA B0 0, vI p1]) (by kernel_rfl) hc ?_; clear hc h
  rintro _ w ⟨caq10, ccq11, rfl, h⟩; refine ⟨_, rfl, ?_⟩
  clear hr a; intro a hr
  refine ov hr (vI r7) (by kernel_rfl) ?_; clear hr a; intro a hr
  refine ln ?_
  refine sr ?_
  refine ovs [34, 35, 36, 37, 38, 39] [pA B0 0, pA B0 0, pA B0 4, vI r7, vI p1, vI (wi (r7 + p1))] hr ⟨rfl, rfl⟩ (by kernel_rfl) ?_; clear hr a; intro a hr
  refine op_set_pts (wn rfl) rfl rfl hr h (i := 4) (cs' := #[vI S8.ledger_size, vI S8.ledger_mark, .int .i32 S8.lock_mu_state, .int .u32 S8.lock_mu_sema, vI (wi (r7 + p1)), .slice caq10 S8.cell.length ccq11]) (vI (wi (r7 + p1))) (.tuple #[]) rfl rfl (by kernel_rfl) (fun hc hz => a_store hc hz) ?_; clear h hr a; intro w a h hr
  refine wpList_nil ?_
  replace h : Fit z (sepL (pts B0 (.cells #[vI S8.ledger_size, vI S8.ledger_mark, .int .i32 S8.lock_mu_state, .int .u32 S8.lock_mu_sema, vI (wi (r7 + p1)), .slice caq10 S8.cell.length ccq11] 110) :: ro107 caq10 ccq11 S8.cell :: L)) _ := h
  refine then_normal ?_
  refine sr ?_
  refine ovs [41, 4, 5] [vI r7, vI r7, vI 0] hr ⟨rfl, rfl⟩ (by kernel_rfl) ?_; clear hr a; intro a hr
  refine ln ?_
  refine wp_ret ?_
  replace H := gd H; obtain ⟨c12, H⟩ := H
  refine endD_unlock muLib hr (fun w => res2 (v := vI r7) (v' := vI 0) rfl hr (by kernel_rfl) (by kernel_rfl) w) (fun _ => by kernel_rfl) h (i := 2) (cs' := #[vI S8.ledger_size, vI S8.ledger_mark, .int .i32 0, .int .u32 S8.lock_mu_sema, vI (wi (r7 + p1)), .slice caq10 S8.cell.length ccq11]) (congrArg (fun q => some (Value.int .i32 q)) c12) rfl ?_; clear h; intro w h
  replace H := ej3 H; obtain ⟨rfl, rfl, rfl⟩ := H
  exact ⟨caq10, ccq11, rfl, h⟩
 ·
  replace H := ifF c6 H
  refine cond_tt hr (b := (r4 != (0 : Int))) (bne_iff_ne.mpr c6) ?_
  refine sr ?_
  refine ovs [28, 4, 5] [vI r4, vI 0, vI r4] hr ⟨rfl, rfl⟩ (by kernel_rfl) ?_; clear hr a; intro a hr
  refine ln ?_
  refine wp_ret ?_
  refine then_ret ?_
  refine endD_unlock muLib hr (fun w => res2 (v := vI 0) (v' := vI r4) rfl hr (by kernel_rfl) (by kernel_rfl) w) (fun _ => by kernel_rfl) h (i := 2) (cs' := #[vI p0.ledger_size, vI p0.ledger_mark, .int .i32 0, .int .u32 p0.lock_mu_sema, vI p0.given_v, .slice ca1 p0.cell.length cc2]) rfl rfl ?_; clear h; intro w h
  replace H := ej3 H; obtain ⟨rfl, rfl, rfl⟩ := H
  exact ⟨ca1, cc2, rfl, h⟩

/-- plunder/plunderlaw2.shared -/
def plunderlaw2_shared (p0 : T_cells_Shared) (p1 : T_plunderlaw2_Move) : Option (T_api_Effect × T_cells_Shared) :=
  (if p1.Kind = (0 : Int) then ob2 (cells_Shared_Load p0 p1.Addr) (fun r6 r7 => some ((⟨r6, r7 == (0 : Int), r7⟩ : T_api_Effect), p0)) else (if p1.Kind = (1 : Int) then ob2 (cells_Shared_Store p0 p1.Addr p1.A) (fun r10 S11 => some ((⟨0, r10 == (0 : Int), r10⟩ : T_api_Effect), S11)) else (if p1.Kind = (2 : Int) then ob3 (cells_Shared_CAS p0 p1.Addr p1.A p1.B) (fun r16 r17 S18 => some ((⟨0, r16, r17⟩ : T_api_Effect), S18)) else (if p1.Kind = (3 : Int) then ob3 (cells_Shared_Add p0 p1.Addr p1.A) (fun r23 r24 S25 => some ((⟨r23, r24 == (0 : Int), r24⟩ : T_api_Effect), S25)) else ob3 (cells_Shared_Reserve p0 p1.A) (fun r29 r30 S31 => some ((⟨r29, r30 == (0 : Int), r30⟩ : T_api_Effect), S31))))))
set_option maxRecDepth 100000 in
set_option maxHeartbeats 4000000 in
theorem plunderlaw2_shared_ok {z w : World} {L : List HProp} {p0 : T_cells_Shared} {p1 : T_plunderlaw2_Move} {B0 : Nat} {ca1 : Option Addr} {cc2 : Nat} {r0 : T_api_Effect} {q0 : T_cells_Shared} (H : plunderlaw2_shared p0 p1 = some (r0, q0)) (h : Fit z (sepL (ob110 B0 p0 ca1 cc2 :: ro107 ca1 cc2 p0.cell :: L)) w)  :
    Calls Try.prog 29 #[pA B0 0, ag_T_plunderlaw2_Move p1] w fun e w => ∃ caq0_1 : Option Addr, ∃ ccq0_2 : Nat, e = .returned (ag_T_api_Effect r0) ∧ Fit z (sepL (ob110 B0 q0 caq0_1 ccq0_2 :: ro107 caq0_1 ccq0_2 q0.cell :: L)) w := by
 unfold plunderlaw2_shared at H
 refine enter Try.func29 rfl 86 rfl rfl [(0, pA B0 0), (1, ag_T_plunderlaw2_Move p1)] ⟨rfl, rfl, trivial⟩ ?_
 intro j a hr
 refine sr ?_
 refine op_new (wn rfl) rfl rfl hr h (vf := fun b => .pointer (some ⟨b, 0, none⟩)) (cs := ca_T_plunderlaw2_Move p1) (T := 30) (by kernel_rfl) ?_; clear h hr a; intro b3 w a h hr
 refine op_new (wn rfl) rfl rfl hr h (vf := fun b => .pointer (some ⟨b, 0, none⟩)) (cs := #[vI 0, vB false, vI 0]) (T := 39) (by kernel_rfl) ?_; clear h hr a; intro b4 w a h hr
 refine ln ?_
 refine wp_seq ?_
 refine sr ?_
 refine ov hr (pA b3 1) (by kernel_rfl) ?_; clear hr a; intro a hr
 refine ld (wn rfl) hr (vI p1.Kind) ((h.pick 1).cell 1 rfl) ?_; clear hr a; intro a hr
 refine ln ?_
 refine wp_block ?_
 refine sr ?_
 refine ovs [17, 16] [vB (p1.Kind == (0 : Int)), vB (p1.Kind == (0 : Int))] hr ⟨rfl, rfl⟩ (by kernel_rfl) ?_; clear hr a; intro a hr
 refine ln ?_
 by_cases c5 : p1.Kind = (0 : Int)
 ·
  replace H := ifT c5 H
  refine cond_tt hr (b := (p1.Kind == (0 : Int))) (beq_iff_eq.mpr c5) ?_
  refine sr ?_
  refine ovs [19, 20] [pA B0 0, pA b3 2] hr ⟨rfl, rfl⟩ (by kernel_rfl) ?_; clear hr a; intro a hr
  refine ld (wn rfl) hr (vI p1.Addr) ((h.pick 1).cell 2 rfl) ?_; clear hr a; intro a hr
  replace H := bd2 H; obtain ⟨r6, r7, e8, H⟩ := H
  replace h : Fit z (sepL (ob110 B0 p0 ca1 cc2 :: ro107 ca1 cc2 p0.cell :: pts b4 (.cells #[vI 0, vB false, vI 0] 39) :: ob30 b3 p1 :: L)) _ := h.sel 4 [2, 3, 0, 1] (by kernel_rfl) (by kernel_rfl)
  have hc := cells_Shared_Load_ok (H := e8) (h := h)
  refine op_call (wn rfl) rfl rfl hr (f := 73) (args := #[pA B0 0, vI p1.Addr]) (by kernel_rfl) hc ?_; clear hc h
  rintro _ w ⟨rfl, h⟩; refine ⟨_, rfl, ?_⟩
  clear hr a; intro a hr
  refine ovs [18, 23, 24, 5, 6] [.tuple #[vI r6, vI r7], vI r6, vI r7, vI r6, vI r7] hr ⟨rfl, rfl⟩ (by kernel_rfl) ?_; clear hr a; intro a hr
  refine ln ?_
  refine sr ?_
  refine ovs [25, 26, 27, 28, 29] [vI r6, vI r7, vB (r7 == (0 : Int)), vI r7, .agg #[vI r6, vB (r7 == (0 : Int)), vI r7]] hr ⟨rfl, rfl⟩ (by kernel_rfl) ?_; clear hr a; intro a hr
  replace h : Fit z (sepL (pts b4 (.cells #[vI 0, vB false, vI 0] 39) :: ob110 B0 p0 ca1 cc2 :: ro107 ca1 cc2 p0.cell :: ob30 b3 p1 :: L)) _ := h.sel 4 [2, 0, 1, 3] (by kernel_rfl) (by kernel_rfl)
  refine op_stores (wn rfl) rfl hr rfl (by kernel_rfl) (by kernel_rfl) (vs := [vI r6, vB (r7 == (0 : Int)), vI r7]) rfl rfl (by kernel_rfl) h (i := 0) (cs' := #[vI r6, vB (r7 == (0 : Int)), vI r7]) rfl ?_; clear h; intro w h
  refine wpList_nil ?_
  replace h : Fit z (sepL (pts b4 (.cells #[vI r6, vB (r7 == (0 : Int)), vI r7] 39) :: ob110 B0 p0 ca1 cc2 :: ro107 ca1 cc2 p0.cell :: ob30 b3 p1 :: L)) _ := h
  refine then_normal ?_
  refine wp_ret ?_
  refine blk_ret ?_
  refine then_ret ?_
  refine end_retC (cs := [vI r6, vB (r7 == (0 : Int)), vI r7]) rfl hr (by kernel_rfl) (by kernel_rfl) (by kernel_rfl) (h.held 0 rfl) ?_
  replace h : Fit z (sepL (ob110 B0 p0 ca1 cc2 :: ro107 ca1 cc2 p0.cell :: L)) _ := h.sel 4 [1, 2] (by kernel_rfl) (by kernel_rfl)
  replace H := ej2 H; obtain ⟨rfl, rfl⟩ := H
  exact ⟨ca1, cc2, rfl, h⟩
 ·
  replace H := ifF c5 H
  refine cond_ff hr (b := (p1.Kind == (0 : Int))) (beq_eq_false_iff_ne.mpr c5) ?_
  refine sr ?_
  refine ovs [31, 30] [vB (p1.Kind == (1 : Int)), vB (p1.Kind == (1 : Int))] hr ⟨rfl, rfl⟩ (by kernel_rfl) ?_; clear hr a; intro a hr
  refine ln ?_
  by_cases c9 : p1.Kind = (1 : Int)
  ·
   replace H := ifT c9 H
   refine cond_tt hr (b := (p1.Kind == (1 : Int))) (beq_iff_eq.mpr c9) ?_
   refine sr ?_
   refine ovs [32, 33] [pA B0 0, pA b3 2] hr ⟨rfl, rfl⟩ (by kernel_rfl) ?_; clear hr a; intro a hr
   refine ld (wn rfl) hr (vI p1.Addr) ((h.pick 1).cell 2 rfl) ?_; clear hr a; intro a hr
   refine ov hr (pA b3 3) (by kernel_rfl) ?_; clear hr a; intro a hr
   refine ld (wn rfl) hr (vI p1.A) ((h.pick 1).cell 3 rfl) ?_; clear hr a; intro a hr
   replace H := bd2 H; obtain ⟨r10, S11, e12, H⟩ := H
   replace h : Fit z (sepL (ob110 B0 p0 ca1 cc2 :: ro107 ca1 cc2 p0.cell :: pts b4 (.cells #[vI 0, vB false, vI 0] 39) :: ob30 b3 p1 :: L)) _ := h.sel 4 [2, 3, 0, 1] (by kernel_rfl) (by kernel_rfl)
   have hc := cells_Shared_Store_ok (H := e12) (h := h)
   refine op_call (wn rfl) rfl rfl hr (f := 74) (args := #[pA B0 0, vI p1.Addr, vI p1.A]) (by kernel_rfl) hc ?_; clear hc h
   rintro _ w ⟨caq13, ccq14, rfl, h⟩; refine ⟨_, rfl, ?_⟩
   clear hr a; intro a hr
   refine ov hr (vI r10) (by kernel_rfl) ?_; clear hr a; intro a hr
   refine ln ?_
   refine sr ?_
   refine ovs [38, 39, 40, 41] [vI r10, vB (r10 == (0 : Int)), vI r10, .agg #[vI 0, vB (r10 == (0 : Int)), vI r10]] hr ⟨rfl, rfl⟩ (by kernel_rfl) ?_; clear hr a; intro a hr
   replace h : Fit z (sepL (pts b4 (.cells #[vI 0, vB false, vI 0] 39) :: ob110 B0 S11 caq13 ccq14 :: ro107 caq13 ccq14 S11.cell :: ob30 b3 p1 :: L)) _ := h.sel 4 [2, 0, 1, 3] (by kernel_rfl) (by kernel_rfl)
   refine op_stores (wn rfl) rfl hr rfl (by kernel_rfl) (by kernel_rfl) (vs := [vI 0, vB (r10 == (0 : Int)), vI r10]) rfl rfl (by kernel_rfl) h (i := 0) (cs' := #[vI 0, vB (r10 == (0 : Int)), vI r10]) rfl ?_; clear h; intro w h
   refine wpList_nil ?_
   replace h : Fit z (sepL (pts b4 (.cells #[vI 0, vB (r10 == (0 : Int)), vI r10] 39) :: ob110 B0 S11 caq13 ccq14 :: ro107 caq13 ccq14 S11.cell :: ob30 b3 p1 :: L)) _ := h
   refine then_normal ?_
   refine wp_ret ?_
   refine blk_ret ?_
   refine then_ret ?_
   refine end_retC (cs := [vI 0, vB (r10 == (0 : Int)), vI r10]) rfl hr (by kernel_rfl) (by kernel_rfl) (by kernel_rfl) (h.held 0 rfl) ?_
   replace h : Fit z (sepL (ob110 B0 S11 caq13 ccq14 :: ro107 caq13 ccq14 S11.cell :: L)) _ := h.sel 4 [1, 2] (by kernel_rfl) (by kernel_rfl)
   replace H := ej2 H; obtain ⟨rfl, rfl⟩ := H
   exact ⟨caq13, ccq14, rfl, h⟩
  ·
   replace H := ifF c9 H
   refine cond_ff hr (b := (p1.Kind == (1 : Int))) (beq_eq_false_iff_ne.mpr c9) ?_
   refine sr ?_
   refine ovs [43, 42] [vB (p1.Kind == (2 : Int)), vB (p1.Kind == (2 : Int))] hr ⟨rfl, rfl⟩ (by kernel_rfl) ?_; clear hr a; intro a hr
   refine ln ?_
   by_cases c15 : p1.Kind = (2 : Int)
   ·
    replace H := ifT c15 H
    refine cond_tt hr (b := (p1.Kind == (2 : Int))) (beq_iff_eq.mpr c15) ?_
    refine sr ?_
    refine ovs [45, 46] [pA B0 0, pA b3 2] hr ⟨rfl, rfl⟩ (by kernel_rfl) ?_; clear hr a; intro a hr
    refine ld (wn rfl) hr (vI p1.Addr) ((h.pick 1).cell 2 rfl) ?_; clear hr a; intro a hr
    refine ov hr (pA b3 3) (by kernel_rfl) ?_; clear hr a; intro a hr
    refine ld (wn rfl) hr (vI p1.A) ((h.pick 1).cell 3 rfl) ?_; clear hr a; intro a hr
    refine ov hr (pA b3 4) (by kernel_rfl) ?_; clear hr a; intro a hr
    refine ld (wn rfl) hr (vI p1.B) ((h.pick 1).cell 4 rfl) ?_; clear hr a; intro a hr
    replace H := bd3 H; obtain ⟨r16, r17, S18, e19, H⟩ := H
    replace h : Fit z (sepL (ob110 B0 p0 ca1 cc2 :: ro107 ca1 cc2 p0.cell :: pts b4 (.cells #[vI 0, vB false, vI 0] 39) :: ob30 b3 p1 :: L)) _ := h.sel 4 [2, 3, 0, 1] (by kernel_rfl) (by kernel_rfl)
    have hc := cells_Shared_CAS_ok (H := e19) (h := h)
    refine op_call (wn rfl) rfl rfl hr (f := 75) (args := #[pA B0 0, vI p1.Addr, vI p1.A, vI p1.B]) (by kernel_rfl) hc ?_; clear hc h
    rintro _ w ⟨caq20, ccq21, rfl, h⟩; refine ⟨_, rfl, ?_⟩
    clear hr a; intro a hr
    refine ovs [44, 53, 54, 8, 9] [.tuple #[vB r16, vI r17], vB r16, vI r17, vB r16, vI r17] hr ⟨rfl, rfl⟩ (by kernel_rfl) ?_; clear hr a; intro a hr
    refine ln ?_
    refine sr ?_
    refine ovs [55, 56, 57] [vB r16, vI r17, .agg #[vI 0, vB r16, vI r17]] hr ⟨rfl, rfl⟩ (by kernel_rfl) ?_; clear hr a; intro a hr
    replace h : Fit z (sepL (pts b4 (.cells #[vI 0, vB false, vI 0] 39) :: ob110 B0 S18 caq20 ccq21 :: ro107 caq20 ccq21 S18.cell :: ob30 b3 p1 :: L)) _ := h.sel 4 [2, 0, 1, 3] (by kernel_rfl) (by kernel_rfl)
    refine op_stores (wn rfl) rfl hr rfl (by kernel_rfl) (by kernel_rfl) (vs := [vI 0, vB r16, vI r17]) rfl rfl (by kernel_rfl) h (i := 0) (cs' := #[vI 0, vB r16, vI r17]) rfl ?_; clear h; intro w h
    refine wpList_nil ?_
    replace h : Fit z (sepL (pts b4 (.cells #[vI 0, vB r16, vI r17] 39) :: ob110 B0 S18 caq20 ccq21 :: ro107 caq20 ccq21 S18.cell :: ob30 b3 p1 :: L)) _ := h
    refine then_normal ?_
    refine wp_ret ?_
    refine blk_ret ?_
    refine then_ret ?_
    refine end_retC (cs := [vI 0, vB r16, vI r17]) rfl hr (by kernel_rfl) (by kernel_rfl) (by kernel_rfl) (h.held 0 rfl) ?_
    replace h : Fit z (sepL (ob110 B0 S18 caq20 ccq21 :: ro107 caq20 ccq21 S18.cell :: L)) _ := h.sel 4 [1, 2] (by kernel_rfl) (by kernel_rfl)
    replace H := ej2 H; obtain ⟨rfl, rfl⟩ := H
    exact ⟨caq20, ccq21, rfl, h⟩
   ·
    replace H := ifF c15 H
    refine cond_ff hr (b := (p1.Kind == (2 : Int))) (beq_eq_false_iff_ne.mpr c15) ?_
    refine sr ?_
    refine ovs [59, 58] [vB (p1.Kind == (3 : Int)), vB (p1.Kind == (3 : Int))] hr ⟨rfl, rfl⟩ (by kernel_rfl) ?_; clear hr a; intro a hr
    refine ln ?_
    by_cases c22 : p1.Kind = (3 : Int)
    ·
     replace H := ifT c22 H
     refine cond_tt hr (b := (p1.Kind == (3 : Int))) (beq_iff_eq.mpr c22) ?_
     refine sr ?_
     refine ovs [61, 62] [pA B0 0, pA b3 2] hr ⟨rfl, rfl⟩ (by kernel_rfl) ?_; clear hr a; intro a hr
     refine ld (wn rfl) hr (vI p1.Addr) ((h.pick 1).cell 2 rfl) ?_; clear hr a; intro a hr
     refine ov hr (pA b3 3) (by kernel_rfl) ?_; clear hr a; intro a hr
     refine ld (wn rfl) hr (vI p1.A) ((h.pick 1).cell 3 rfl) ?_; clear hr a; intro a hr
     replace H := bd3 H; obtain ⟨r23, r24, S25, e26, H⟩ := H
     replace h : Fit z (sepL (ob110 B0 p0 ca1 cc2 :: ro107 ca1 cc2 p0.cell :: pts b4 (.cells #[vI 0, vB false, vI 0] 39) :: ob30 b3 p1 :: L)) _ := h.sel 4 [2, 3, 0, 1] (by kernel_rfl) (by kernel_rfl)
     have hc := cells_Shared_Add_ok (H := e26) (h := h)
     refine op_call (wn rfl) rfl rfl hr (f := 76) (args := #[pA B0 0, vI p1.Addr, vI p1.A]) (by kernel_rfl) hc ?_; clear hc h
     rintro _ w ⟨caq27, ccq28, rfl, h⟩; refine ⟨_, rfl, ?_⟩
     clear hr a; intro a hr
     refine ovs [60, 67, 68, 10, 11] [.tuple #[vI r23, vI r24], vI r23, vI r24, vI r23, vI r24] hr ⟨rfl, rfl⟩ (by kernel_rfl) ?_; clear hr a; intro a hr
     refine ln ?_
     refine sr ?_
     refine ovs [69, 70, 71, 72, 73] [vI r23, vI r24, vB (r24 == (0 : Int)), vI r24, .agg #[vI r23, vB (r24 == (0 : Int)), vI r24]] hr ⟨rfl, rfl⟩ (by kernel_rfl) ?_; clear hr a; intro a hr
     replace h : Fit z (sepL (pts b4 (.cells #[vI 0, vB false, vI 0] 39) :: ob110 B0 S25 caq27 ccq28 :: ro107 caq27 ccq28 S25.cell :: ob30 b3 p1 :: L)) _ := h.sel 4 [2, 0, 1, 3] (by kernel_rfl) (by kernel_rfl)
     refine op_stores (wn rfl) rfl hr rfl (by kernel_rfl) (by kernel_rfl) (vs := [vI r23, vB (r24 == (0 : Int)), vI r24]) rfl rfl (by kernel_rfl) h (i := 0) (cs' := #[vI r23, vB (r24 == (0 : Int)), vI r24]) rfl ?_; clear h; intro w h
     refine wpList_nil ?_
     replace h : Fit z (sepL (pts b4 (.cells #[vI r23, vB (r24 == (0 : Int)), vI r24] 39) :: ob110 B0 S25 caq27 ccq28 :: ro107 caq27 ccq28 S25.cell :: ob30 b3 p1 :: L)) _ := h
     refine then_normal ?_
     refine wp_ret ?_
     refine blk_ret ?_
     refine then_ret ?_
     refine end_retC (cs := [vI r23, vB (r24 == (0 : Int)), vI r24]) rfl hr (by kernel_rfl) (by kernel_rfl) (by kernel_rfl) (h.held 0 rfl) ?_
     replace h : Fit z (sepL (ob110 B0 S25 caq27 ccq28 :: ro107 caq27 ccq28 S25.cell :: L)) _ := h.sel 4 [1, 2] (by kernel_rfl) (by kernel_rfl)
     replace H := ej2 H; obtain ⟨rfl, rfl⟩ := H
     exact ⟨caq27, ccq28, rfl, h⟩
    ·
     replace H := ifF c22 H
     refine cond_ff hr (b := (p1.Kind == (3 : Int))) (beq_eq_false_iff_ne.mpr c22) ?_
     refine wp_skip ?_
     refine blk_normal ?_
     refine then_normal ?_
     refine sr ?_
     refine ovs [75, 76] [pA B0 0, pA b3 3] hr ⟨rfl, rfl⟩ (by kernel_rfl) ?_; clear hr a; intro a hr
     refine ld (wn rfl) hr (vI p1.A) ((h.pick 1).cell 3 rfl) ?_; clear hr a; intro a hr
     replace H := bd3 H; obtain ⟨r29, r30, S31, e32, H⟩ := H
     replace h : Fit z (sepL (ob110 B0 p0 ca1 cc2 :: ro107 ca1 cc2 p0.cell :: pts b4 (.cells #[vI 0, vB false, vI 0] 39) :: ob30 b3 p1 :: L)) _ := h.sel 4 [2, 3, 0, 1] (by kernel_rfl) (by kernel_rfl)
     have hc := cells_Shared_Reserve_ok (H := e32) (h := h)
     refine op_call (wn rfl) rfl rfl hr (f := 77) (args := #[pA B0 0, vI p1.A]) (by kernel_rfl) hc ?_; clear hc h
     rintro _ w ⟨caq33, ccq34, rfl, h⟩; refine ⟨_, rfl, ?_⟩
     clear hr a; intro a hr
     refine ovs [74, 79, 80, 12, 13] [.tuple #[vI r29, vI r30], vI r29, vI r30, vI r29, vI r30] hr ⟨rfl, rfl⟩ (by kernel_rfl) ?_; clear hr a; intro a hr
     refine ln ?_
     refine sr ?_
     refine ovs [81, 82, 83, 84, 85] [vI r29, vI r30, vB (r30 == (0 : Int)), vI r30, .agg #[vI r29, vB (r30 == (0 : Int)), vI r30]] hr ⟨rfl, rfl⟩ (by kernel_rfl) ?_; clear hr a; intro a hr
     replace h : Fit z (sepL (pts b4 (.cells #[vI 0, vB false, vI 0] 39) :: ob110 B0 S31 caq33 ccq34 :: ro107 caq33 ccq34 S31.cell :: ob30 b3 p1 :: L)) _ := h.sel 4 [2, 0, 1, 3] (by kernel_rfl) (by kernel_rfl)
     refine op_stores (wn rfl) rfl hr rfl (by kernel_rfl) (by kernel_rfl) (vs := [vI r29, vB (r30 == (0 : Int)), vI r30]) rfl rfl (by kernel_rfl) h (i := 0) (cs' := #[vI r29, vB (r30 == (0 : Int)), vI r30]) rfl ?_; clear h; intro w h
     refine wpList_nil ?_
     replace h : Fit z (sepL (pts b4 (.cells #[vI r29, vB (r30 == (0 : Int)), vI r30] 39) :: ob110 B0 S31 caq33 ccq34 :: ro107 caq33 ccq34 S31.cell :: ob30 b3 p1 :: L)) _ := h
     refine then_normal ?_
     refine wp_ret ?_
     refine end_retC (cs := [vI r29, vB (r30 == (0 : Int)), vI r30]) rfl hr (by kernel_rfl) (by kernel_rfl) (by kernel_rfl) (h.held 0 rfl) ?_
     replace h : Fit z (sepL (ob110 B0 S31 caq33 ccq34 :: ro107 caq33 ccq34 S31.cell :: L)) _ := h.sel 4 [1, 2] (by kernel_rfl) (by kernel_rfl)
     replace H := ej2 H; obtain ⟨rfl, rfl⟩ := H
     exact ⟨caq33, ccq34, rfl, h⟩

/-- (*plunder/cells.ledger).Mark -/
def cells_ledger_Mark (p0 : T_cells_Shared) : Option (Int) :=
  some p0.ledger_mark
set_option maxRecDepth 100000 in
set_option maxHeartbeats 4000000 in
theorem cells_ledger_Mark_ok {z w : World} {L : List HProp} {p0 : T_cells_Shared} {B0 : Nat} {ca1 : Option Addr} {cc2 : Nat} {r0 : Int} (H : cells_ledger_Mark p0 = some r0) (h : Fit z (sepL (ob110 B0 p0 ca1 cc2 :: ro107 ca1 cc2 p0.cell :: L)) w)  :
    Calls Try.prog 84 #[pA B0 0] w fun e w => e = .returned (vI r0) ∧ Fit z (sepL (ob110 B0 p0 ca1 cc2 :: ro107 ca1 cc2 p0.cell :: L)) w := by
 unfold cells_ledger_Mark at H
 refine enter Try.func84 rfl 9 rfl rfl [(0, pA B0 0)] ⟨rfl, trivial⟩ ?_
 intro j a hr
 refine sr ?_
 refine ov hr (vI 0) (by kernel_rfl) ?_; clear hr a; intro a hr
 refine ln ?_
 refine wp_seq ?_
 refine sr ?_
 refine ovs [3, 4] [pA B0 0, vB false] hr ⟨rfl, rfl⟩ (by kernel_rfl) ?_; clear hr a; intro a hr
 refine ln ?_
 refine cond_ff hr (b := false) rfl ?_
 refine wp_skip ?_
 refine then_normal ?_
 refine sr ?_
 refine ovs [5, 6, 7] [pA B0 0, pA B0 0, pA B0 1] hr ⟨rfl, rfl⟩ (by kernel_rfl) ?_; clear hr a; intro a hr
 refine ld (wn rfl) hr (vI p0.ledger_mark) (h.cell 1 rfl) ?_; clear hr a; intro a hr
 refine ov hr (vI p0.ledger_mark) (by kernel_rfl) ?_; clear hr a; intro a hr
 refine ln ?_
 refine wp_ret ?_
 refine end_ret1 (v := vI p0.ledger_mark) rfl hr (by kernel_rfl) ?_
 replace H := ej1 H; subst H
 exact ⟨rfl, h⟩

/-- (*plunder/cells.Shared).Mark -/
def cells_Shared_Mark (p0 : T_cells_Shared) : Option (Int × T_cells_Shared) :=
  if p0.lock_mu_state = 0 then ob1 (cells_ledger_Mark ({ p0 with lock_mu_state := 1 })) (fun r4 => some (r4, { p0 with lock_mu_state := 0 })) else none
set_option maxRecDepth 100000 in
set_option maxHeartbeats 4000000 in
theorem cells_Shared_Mark_ok {z w : World} {L : List HProp} {p0 : T_cells_Shared} {B0 : Nat} {ca1 : Option Addr} {cc2 : Nat} {r0 : Int} {q0 : T_cells_Shared} (H : cells_Shared_Mark p0 = some (r0, q0)) (h : Fit z (sepL (ob110 B0 p0 ca1 cc2 :: ro107 ca1 cc2 p0.cell :: L)) w)  :
    Calls Try.prog 33 #[pA B0 0] w fun e w => ∃ caq0_1 : Option Addr, ∃ ccq0_2 : Nat, e = .returned (vI r0) ∧ Fit z (sepL (ob110 B0 q0 caq0_1 ccq0_2 :: ro107 caq0_1 ccq0_2 q0.cell :: L)) w := by
 unfold cells_Shared_Mark at H
 refine enterD Try.func33 rfl 16 rfl rfl [(0, pA B0 0)] ⟨rfl, trivial⟩ ?_
 intro j a hr
 refine sr ?_
 refine ov hr (vI 0) (by kernel_rfl) ?_; clear hr a; intro a hr
 refine ln ?_
 refine wp_seq ?_
 refine sr ?_
 refine ovs [3, 4] [pA B0 0, vB false] hr ⟨rfl, rfl⟩ (by kernel_rfl) ?_; clear hr a; intro a hr
 refine ln ?_
 refine cond_ff hr (b := false) rfl ?_
 refine wp_skip ?_
 refine then_normal ?_
 refine sr ?_
 replace H := gd H; obtain ⟨c3, H⟩ := H
 refine ovs [5, 6, 7] [pA B0 0, pA B0 0, pA B0 2] hr ⟨rfl, rfl⟩ (by kernel_rfl) ?_; clear hr a; intro a hr
 refine op_lock muLib (wn rfl) rfl rfl hr h (i := 2) (cs' := #[vI p0.ledger_size, vI p0.ledger_mark, .int .i32 1, .int .u32 p0.lock_mu_sema, vI p0.given_v, .slice ca1 p0.cell.length cc2]) (congrArg (fun q => some (Value.int .i32 q)) c3) rfl (by kernel_rfl) ?_; clear h hr a; intro w a h hr
 refine wpList_nil ?_
 replace h : Fit z (sepL (pts B0 (.cells #[vI p0.ledger_size, vI p0.ledger_mark, .int .i32 1, .int .u32 p0.lock_mu_sema, vI p0.given_v, .slice ca1 p0.cell.length cc2] 110) :: ro107 ca1 cc2 p0.cell :: L)) _ := h
 refine then_normal ?_
 refine sr ?_
 refine ovs [9, 10, 11] [pA B0 0, pA B0 0, pA B0 2] hr ⟨rfl, rfl⟩ (by kernel_rfl) ?_; clear hr a; intro a hr
 refine op_defer (wn rfl) rfl hr (q := { target := .fn (.func 83) #[], args := #[pA B0 2] }) (by kernel_rfl) ?_; clear hr a; intro a hr
 refine ln ?_
 refine sr ?_
 replace H := bd1 H; obtain ⟨r4, e5, H⟩ := H
 refine ovs [12, 13, 14] [pA B0 0, pA B0 0, pA B0 0] hr ⟨rfl, rfl⟩ (by kernel_rfl) ?_; clear hr a; intro a hr
 have hc := cells_ledger_Mark_ok (H := e5) (h := h)
 refine op_call (wn rfl) rfl rfl hr (f := 84) (args := #[pA B0 0]) (by kernel_rfl) hc ?_; clear hc h
 rintro _ w ⟨rfl, h⟩; refine ⟨_, rfl, ?_⟩
 clear hr a; intro a hr
 refine ov hr (vI r4) (by kernel_rfl) ?_; clear hr a; intro a hr
 refine ln ?_
 refine wp_ret ?_
 refine endD_unlock muLib hr (fun w => res1 (v := vI r4) rfl hr (by kernel_rfl) w) (fun _ => by kernel_rfl) h (i := 2) (cs' := #[vI p0.ledger_size, vI p0.ledger_mark, .int .i32 0, .int .u32 p0.lock_mu_sema, vI p0.given_v, .slice ca1 p0.cell.length cc2]) rfl rfl ?_; clear h; intro w h
 replace H := ej2 H; obtain ⟨rfl, rfl⟩ := H
 exact ⟨ca1, cc2, rfl, h⟩

def plunderlaw2_holds_l1 (K : Nat) (p0 : T_cells_Shared) (p1 : List Int) : Nat → Int → Option ((Unit) ⊕ (Bool × T_cells_Shared))
  | 0, _ => none
  | k1 + 1, g5 => (if g5 < ((p1.length : Nat) : Int) then ob2 (cells_Shared_Load p0 g5) (fun r7 r8 => (if r8 = (0 : Int) then if inr_ g5 p1.length then (if r7 = (at_ p1 g5.toNat) then (plunderlaw2_holds_l1 K p0 p1 k1 (wi (g5 + (1 : Int)))) else some (.inr (false, p0))) else none else some (.inr (false, p0)))) else some (.inl ()))
/-- plunder/plunderlaw2.holds -/
def plunderlaw2_holds (K : Nat) (p0 : T_cells_Shared) (p1 : List Int) : Option (Bool × T_cells_Shared) :=
  jn0 ((plunderlaw2_holds_l1 K p0 p1 K 0)) (ob2 (cells_Shared_Load p0 ((p1.length : Nat) : Int)) (fun r13 r14 => (if r14 = (20 : Int) then ob2 (cells_Shared_Mark p0) (fun r17 S18 => some (r17 == ((p1.length : Nat) : Int), S18)) else some (false, p0))))
set_option maxRecDepth 100000 in
set_option maxHeartbeats 4000000 in
theorem plunderlaw2_holds_ok {z w : World} {L : List HProp} {K : Nat} {p0 : T_cells_Shared} {p1 : List Int} {B0 : Nat} {ca1 : Option Addr} {cc2 : Nat} {va1 : Option Addr} {vc1 : Nat} {r0 : Bool} {q0 : T_cells_Shared} (H : plunderlaw2_holds K p0 p1 = some (r0, q0)) (h : Fit z (sepL (ob110 B0 p0 ca1 cc2 :: ro107 ca1 cc2 p0.cell :: L)) w) (hv1 : RdRow L 1 encZ_i64 va1 p1) :
    Calls Try.prog 34 #[pA B0 0, .slice va1 p1.length vc1] w fun e w => ∃ caq0_1 : Option Addr, ∃ ccq0_2 : Nat, e = .returned (vB r0) ∧ Fit z (sepL (ob110 B0 q0 caq0_1 ccq0_2 :: ro107 caq0_1 ccq0_2 q0.cell :: L)) w := by
 unfold plunderlaw2_holds at H
 refine enter Try.func34 rfl 48 rfl rfl [(0, pA B0 0), (1, .slice va1 p1.length vc1)] ⟨rfl, rfl, trivial⟩ ?_
 intro j a hr
 refine sr ?_
 refine ov hr (vB false) (by kernel_rfl) ?_; clear hr a; intro a hr
 refine ln ?_
 replace H := jd0 H; obtain ⟨o4, H, hK3⟩ := H
 refine cut_rule (β := Unit) (fun _ a w => .inl () = o4 ∧ ∃ j, Rep 48 (lk [(0, pA B0 0), (1, .slice va1 p1.length vc1)] j) a ∧ Fit z (sepL (ob110 B0 p0 ca1 cc2 :: ro107 ca1 cc2 p0.cell :: L)) w) ?_ ?_
 ·
  refine sr ?_
  refine ov hr (vI 0) (by kernel_rfl) ?_; clear hr a; intro a hr
  refine ln ?_
  refine wp_block ?_
  replace hr := hr.fold2 [(0, pA B0 0), (1, .slice va1 p1.length vc1), (5, vI 0)] (by kernel_rfl); obtain ⟨j, hr⟩ := hr
  refine loop_rule (β := Nat) id (fun m a w => ∃ g5 : Int, (plunderlaw2_holds_l1 K p0 p1 m g5) = some o4 ∧ ∃ j, Rep 48 (lk [(0, pA B0 0), (1, .slice va1 p1.length vc1), (5, vI g5)] j) a ∧ Fit z (sepL (ob110 B0 p0 ca1 cc2 :: ro107 ca1 cc2 p0.cell :: L)) w) K ⟨0, H, j, hr, h⟩ ?_
  clear h hr a H; rintro k1 a w ⟨g5, H, j, hr, h⟩
  cases k1 with
  | zero => exact absurd H (by simp [plunderlaw2_holds_l1])
  | succ k1 =>
   rw [plunderlaw2_holds_l1] at H
   refine wp_seq ?_
   refine sr ?_
   refine ovs [10, 11, 12, 13] [vI g5, .slice va1 p1.length vc1, vI ((p1.length : Nat) : Int), vB (decide (g5 < ((p1.length : Nat) : Int)))] hr ⟨rfl, rfl⟩ (by kernel_rfl) ?_; clear hr a; intro a hr
   refine ln ?_
   by_cases c6 : g5 < ((p1.length : Nat) : Int)
   ·
    replace H := ifT c6 H
    refine cond_tt hr (b := (decide (g5 < ((p1.length : Nat) : Int)))) (decide_eq_true c6) ?_
    refine wp_skip ?_
    refine then_normal ?_
    refine wp_seq ?_
    refine wp_block ?_
    refine sr ?_
    replace H := bd2 H; obtain ⟨r7, r8, e9, H⟩ := H
    refine ovs [17, 18] [pA B0 0, vI g5] hr ⟨rfl, rfl⟩ (by kernel_rfl) ?_; clear hr a; intro a hr
    have hc := cells_Shared_Load_ok (H := e9) (h := h)
    refine op_call (wn rfl) rfl rfl hr (f := 73) (args := #[pA B0 0, vI g5]) (by kernel_rfl) hc ?_; clear hc h
    rintro _ w ⟨rfl, h⟩; refine ⟨_, rfl, ?_⟩
    clear hr a; intro a hr
    refine ovs [16, 20, 21, 6, 7] [.tuple #[vI r7, vI r8], vI r7, vI r8, vI r7, vI r8] hr ⟨rfl, rfl⟩ (by kernel_rfl) ?_; clear hr a; intro a hr
    refine ln ?_
    refine sr ?_
    refine ovs [22, 23, 24] [vI r8, vB (r8 != (0 : Int)), vB (r8 != (0 : Int))] hr ⟨rfl, rfl⟩ (by kernel_rfl) ?_; clear hr a; intro a hr
    by_cases c10 : r8 = (0 : Int)
    ·
     replace H := ifT c10 H
     refine opv (wgt hr (bne_eq_false_iff_eq.mpr c10)) hr (vI r7) (by kernel_rfl) ?_; clear hr a; intro a hr
     refine opv (wgt hr (bne_eq_false_iff_eq.mpr c10)) hr (.slice va1 p1.length vc1) (by kernel_rfl) ?_; clear hr a; intro a hr
     refine opv (wgt hr (bne_eq_false_iff_eq.mpr c10)) hr (vI g5) (by kernel_rfl) ?_; clear hr a; intro a hr
     replace H := gd H; obtain ⟨c11, H⟩ := H
     refine opv (wgt hr (bne_eq_false_iff_eq.mpr c10)) hr (pA (blk va1) (offs va1 + g5.toNat * 1)) (ri_rd (k := .i64) (E := 2) (cc := vc1) rfl (by kernel_rfl) (by kernel_rfl) rfl (by kernel_rfl) (by kernel_rfl) hv1 c11) ?_; clear hr a; intro a hr
     refine ld (wgt hr (bne_eq_false_iff_eq.mpr c10)) hr (vI (at_ p1 g5.toNat)) (hv1.cell c11 (h.dn 2) 0 rfl) ?_; clear hr a; intro a hr
     refine opv (wgt hr (bne_eq_false_iff_eq.mpr c10)) hr (vB (r7 != (at_ p1 g5.toNat))) (by kernel_rfl) ?_; clear hr a; intro a hr
     refine opv (wn rfl) hr (vB (r7 != (at_ p1 g5.toNat))) (rp_f (b := (r8 != (0 : Int))) rfl (by kernel_rfl) (bne_eq_false_iff_eq.mpr c10) (by kernel_rfl)) ?_; clear hr a; intro a hr
     refine ln ?_
     by_cases c12 : r7 = (at_ p1 g5.toNat)
     ·
      replace H := ifT c12 H
      refine cond_ff hr (b := (r7 != (at_ p1 g5.toNat))) (bne_eq_false_iff_eq.mpr c12) ?_
      refine wp_skip ?_
      refine blk_normal ?_
      refine then_normal ?_
      refine wp_region_lit ?_
      refine ovs [14, 15, 5] [vI g5, vI (wi (g5 + (1 : Int))), vI (wi (g5 + (1 : Int)))] hr ⟨rfl, rfl⟩ (by kernel_rfl) ?_; clear hr a; intro a hr
      refine ln ?_
      replace hr := hr.fold2 [(0, pA B0 0), (1, .slice va1 p1.length vc1), (5, vI (wi (g5 + (1 : Int))))] (by kernel_rfl); obtain ⟨j, hr⟩ := hr
      exact ⟨_, ⟨(wi (g5 + (1 : Int))), H, j, hr, h⟩, Nat.lt_succ_self _⟩
     ·
      replace H := ifF c12 H
      refine cond_tt hr (b := (r7 != (at_ p1 g5.toNat))) (bne_iff_ne.mpr c12) ?_
      refine sr ?_
      refine ov hr (vB false) (by kernel_rfl) ?_; clear hr a; intro a hr
      refine ln ?_
      refine wp_ret ?_
      refine blk_ret ?_
      refine then_ret ?_
      refine then_ret ?_
      refine blk_ret ?_
      refine then_ret ?_
      refine end_ret1 (v := vB false) rfl hr (by kernel_rfl) ?_
      replace H := jx0 H hK3
      replace H := ej2 H; obtain ⟨rfl, rfl⟩ := H
      exact ⟨ca1, cc2, rfl, h⟩
    ·
     replace H := ifF c10 H
     refine offg (wgt hr (bne_iff_ne.mpr c10)) hr ?_; clear hr a; intro a hr
     refine offg (wgt hr (bne_iff_ne.mpr c10)) hr ?_; clear hr a; intro a hr
     refine offg (wgt hr (bne_iff_ne.mpr c10)) hr ?_; clear hr a; intro a hr
     refine offg (wgt hr (bne_iff_ne.mpr c10)) hr ?_; clear hr a; intro a hr
     refine offg (wgt hr (bne_iff_ne.mpr c10)) hr ?_; clear hr a; intro a hr
     refine offg (wgt hr (bne_iff_ne.mpr c10)) hr ?_; clear hr a; intro a hr
     refine opv (wn rfl) hr (vB true) (rp_t (b := (r8 != (0 : Int))) rfl (by kernel_rfl) (bne_iff_ne.mpr c10) (by kernel_rfl)) ?_; clear hr a; intro a hr
     refine ln ?_
     refine cond_tt hr (b := true) rfl ?_
     refine sr ?_
     refine ov hr (vB false) (by kernel_rfl) ?_; clear hr a; intro a hr
     refine ln ?_
     refine wp_ret ?_
     refine blk_ret ?_
     refine then_ret ?_
     refine then_ret ?_
     refine blk_ret ?_
     refine then_ret ?_
     refine end_ret1 (v := vB false) rfl hr (by kernel_rfl) ?_
     replace H := jx0 H hK3
     replace H := ej2 H; obtain ⟨rfl, rfl⟩ := H
     exact ⟨ca1, cc2, rfl, h⟩
   ·
    replace H := ifF c6 H
    refine cond_ff hr (b := (decide (g5 < ((p1.length : Nat) : Int)))) (decide_eq_false c6) ?_
    refine wp_exit ?_
    refine then_exit ?_
    refine then_exit ?_
    refine blk_here ?_
    refine then_normal ?_
    replace hr := hr.fold2 [(0, pA B0 0), (1, .slice va1 p1.length vc1)] (by kernel_rfl); obtain ⟨j, hr⟩ := hr
    exact ⟨(), sinj H, j, hr, h⟩
 clear h hr a; rintro _ a w ⟨rfl, j, hr, h⟩
 replace H := jk0 hK3
 refine sr ?_
 replace H := bd2 H; obtain ⟨r13, r14, e15, H⟩ := H
 refine ovs [33, 34, 35] [pA B0 0, .slice va1 p1.length vc1, vI ((p1.length : Nat) : Int)] hr ⟨rfl, rfl⟩ (by kernel_rfl) ?_; clear hr a; intro a hr
 have hc := cells_Shared_Load_ok (H := e15) (h := h)
 refine op_call (wn rfl) rfl rfl hr (f := 73) (args := #[pA B0 0, vI ((p1.length : Nat) : Int)]) (by kernel_rfl) hc ?_; clear hc h
 rintro _ w ⟨rfl, h⟩; refine ⟨_, rfl, ?_⟩
 clear hr a; intro a hr
 refine ovs [32, 37, 38, 8, 9] [.tuple #[vI r13, vI r14], vI r13, vI r14, vI r13, vI r14] hr ⟨rfl, rfl⟩ (by kernel_rfl) ?_; clear hr a; intro a hr
 refine ln ?_
 refine sr ?_
 refine ovs [39, 40, 41] [vI r14, vB (r14 == (20 : Int)), vB (r14 == (20 : Int))] hr ⟨rfl, rfl⟩ (by kernel_rfl) ?_; clear hr a; intro a hr
 by_cases c16 : r14 = (20 : Int)
 ·
  replace H := ifT c16 H
  refine opv (wgt hr (beq_iff_eq.mpr c16)) hr (pA B0 0) (by kernel_rfl) ?_; clear hr a; intro a hr
  replace H := bd2 H; obtain ⟨r17, S18, e19, H⟩ := H
  have hc := cells_Shared_Mark_ok (H := e19) (h := h)
  refine op_call (wgt hr (beq_iff_eq.mpr c16)) rfl rfl hr (f := 33) (args := #[pA B0 0]) (by kernel_rfl) hc ?_; clear hc h
  rintro _ w ⟨caq20, ccq21, rfl, h⟩; refine ⟨_, rfl, ?_⟩
  clear hr a; intro a hr
  refine opv (wgt hr (beq_iff_eq.mpr c16)) hr (.slice va1 p1.length vc1) (by kernel_rfl) ?_; clear hr a; intro a hr
  refine opv (wgt hr (beq_iff_eq.mpr c16)) hr (vI ((p1.length : Nat) : Int)) (by kernel_rfl) ?_; clear hr a; intro a hr
  refine opv (wgt hr (beq_iff_eq.mpr c16)) hr (vB (r17 == ((p1.length : Nat) : Int))) (by kernel_rfl) ?_; clear hr a; intro a hr
  refine opv (wn rfl) hr (vB (r17 == ((p1.length : Nat) : Int))) (rp_t (b := (r14 == (20 : Int))) rfl (by kernel_rfl) (beq_iff_eq.mpr c16) (by kernel_rfl)) ?_; clear hr a; intro a hr
  refine ov hr (vB (r17 == ((p1.length : Nat) : Int))) (by kernel_rfl) ?_; clear hr a; intro a hr
  refine ln ?_
  refine wp_ret ?_
  refine end_ret1 (v := vB (r17 == ((p1.length : Nat) : Int))) rfl hr (by kernel_rfl) ?_
  replace H := ej2 H; obtain ⟨rfl, rfl⟩ := H
  exact ⟨caq20, ccq21, rfl, h⟩
 ·
  replace H := ifF c16 H
  refine offg (wgt hr (beq_eq_false_iff_ne.mpr c16)) hr ?_; clear hr a; intro a hr
  refine offg (wgt hr (beq_eq_false_iff_ne.mpr c16)) hr ?_; clear hr a; intro a hr
  refine offg (wgt hr (beq_eq_false_iff_ne.mpr c16)) hr ?_; clear hr a; intro a hr
  refine offg (wgt hr (beq_eq_false_iff_ne.mpr c16)) hr ?_; clear hr a; intro a hr
  refine offg (wgt hr (beq_eq_false_iff_ne.mpr c16)) hr ?_; clear hr a; intro a hr
  refine opv (wn rfl) hr (vB false) (rp_f (b := (r14 == (20 : Int))) rfl (by kernel_rfl) (beq_eq_false_iff_ne.mpr c16) (by kernel_rfl)) ?_; clear hr a; intro a hr
  refine ov hr (vB false) (by kernel_rfl) ?_; clear hr a; intro a hr
  refine ln ?_
  refine wp_ret ?_
  refine end_ret1 (v := vB false) rfl hr (by kernel_rfl) ?_
  replace H := ej2 H; obtain ⟨rfl, rfl⟩ := H
  exact ⟨ca1, cc2, rfl, h⟩

def plunderlaw2_CellsAlike_l1 (K : Nat) (p1 : List T_api_Act) (r5 : T_api_CellRun) : Nat → T_cells_Shared → Int → Option ((T_cells_Shared) ⊕ (Bool))
  | 0, _, _ => none
  | k1 + 1, S30, g33 => (if g33 < (((p1.take 4096).length : Nat) : Int) then if inr_ g33 (p1.take 4096).length then (if ((at_ (p1.take 4096) g33.toNat).Kind) < (0 : Int) then if inr_ g33 r5.Effects.length then (if ((at_ r5.Effects g33.toNat).Err) = (0 : Int) then some (.inr false) else (plunderlaw2_CellsAlike_l1 K p1 r5 k1 S30 (wi (g33 + (1 : Int))))) else none else (if ((at_ (p1.take 4096) g33.toNat).Kind) > (4 : Int) then if inr_ g33 r5.Effects.length then (if ((at_ r5.Effects g33.toNat).Err) = (0 : Int) then some (.inr false) else (plunderlaw2_CellsAlike_l1 K p1 r5 k1 S30 (wi (g33 + (1 : Int))))) else none else ob2 (plunderlaw2_shared S30 (⟨0, (at_ (p1.take 4096) g33.toNat).Kind, (at_ (p1.take 4096) g33.toNat).Addr, (at_ (p1.take 4096) g33.toNat).A, (at_ (p1.take 4096) g33.toNat).B⟩ : T_plunderlaw2_Move)) (fun r43 S44 => if inr_ g33 r5.Effects.length then (if r43 = at_ r5.Effects g33.toNat then (plunderlaw2_CellsAlike_l1 K p1 r5 k1 S44 (wi (g33 + (1 : Int)))) else some (.inr false)) else none))) else none else some (.inl S30))
def plunderlaw2_CellsAlike_l2 (K : Nat) (p1 : List T_api_Act) (r58 : T_api_CellRun) : Nat → T_cells_Shared → Int → Option ((T_cells_Shared) ⊕ (Bool))
  | 0, _, _ => none
  | k2 + 1, S83, g86 => (if g86 < ((p1.length : Nat) : Int) then if inr_ g86 p1.length then (if ((at_ p1 g86.toNat).Kind) < (0 : Int) then if inr_ g86 r58.Effects.length then (if ((at_ r58.Effects g86.toNat).Err) = (0 : Int) then some (.inr false) else (plunderlaw2_CellsAlike_l2 K p1 r58 k2 S83 (wi (g86 + (1 : Int))))) else none else (if ((at_ p1 g86.toNat).Kind) > (4 : Int) then if inr_ g86 r58.Effects.length then (if ((at_ r58.Effects g86.toNat).Err) = (0 : Int) then some (.inr false) else (plunderlaw2_CellsAlike_l2 K p1 r58 k2 S83 (wi (g86 + (1 : Int))))) else none else ob2 (plunderlaw2_shared S83 (⟨0, (at_ p1 g86.toNat).Kind, (at_ p1 g86.toNat).Addr, (at_ p1 g86.toNat).A, (at_ p1 g86.toNat).B⟩ : T_plunderlaw2_Move)) (fun r96 S97 => if inr_ g86 r58.Effects.length then (if r96 = at_ r58.Effects g86.toNat then (plunderlaw2_CellsAlike_l2 K p1 r58 k2 S97 (wi (g86 + (1 : Int)))) else some (.inr false)) else none))) else none else some (.inl S83))
/-- plunder/plunderlaw2.CellsAlike -/
def plunderlaw2_CellsAlike (K : Nat) (p0 : Int) (p1 : List T_api_Act) : Option (Bool) :=
  ob1 (plunderlaw2_mod p0 4097) (fun r1 => (if ((p1.length : Nat) : Int) > (4096 : Int) then if 0 ≤ (4096 : Int) ∧ (4096 : Int) ≤ ((p1.length : Nat) : Int) then ob2 (cells_Play K r1 (p1.take 4096)) (fun r5 r6 => ob2 (cells_NewShared r1) (fun r13 r14 => (match r13 with | some S16 => jn0 ((if r6 = (0 : Int) then (if r14 = (0 : Int) then (if ((r5.Effects.length : Nat) : Int) = (((p1.take 4096).length : Nat) : Int) then some (.inl ()) else some (.inr false)) else some (.inr false)) else some (.inr false))) (jn1 ((plunderlaw2_CellsAlike_l1 K p1 r5 K S16 0)) (fun S25 => ob2 (plunderlaw2_holds K S25 r5.Cells) (fun r51 S52 => some r51))) | none => (if r6 = (0 : Int) then (if r14 = (0 : Int) then some false else some false) else some false)))) else none else ob2 (cells_Play K r1 p1) (fun r58 r59 => ob2 (cells_NewShared r1) (fun r66 r67 => (match r66 with | some S69 => jn0 ((if r59 = (0 : Int) then (if r67 = (0 : Int) then (if ((r58.Effects.length : Nat) : Int) = ((p1.length : Nat) : Int) then some (.inl ()) else some (.inr false)) else some (.inr false)) else some (.inr false))) (jn1 ((plunderlaw2_CellsAlike_l2 K p1 r58 K S69 0)) (fun S78 => ob2 (plunderlaw2_holds K S78 r58.Cells) (fun r104 S105 => some r104))) | none => (if r59 = (0 : Int) then (if r67 = (0 : Int) then some false else some false) else some false))))))
set_option maxRecDepth 100000 in
set_option maxHeartbeats 4000000 in
theorem plunderlaw2_CellsAlike_ok {z w : World} {L : List HProp} {K : Nat} {p0 : Int} {p1 : List T_api_Act} {va1 : Option Addr} {vc1 : Nat} {r0 : Bool} (H : plunderlaw2_CellsAlike K p0 p1 = some r0) (h : Fit z (sepL (L)) w) (hv1 : RdRow L 5 enc_T_api_Act va1 p1) (hc1 : p1.length ≤ vc1) :
    Calls Try.prog 14 #[vI p0, .slice va1 p1.length vc1] w fun e w => e = .returned (vB r0) ∧ Fit z (sepL (L)) w := by
 unfold plunderlaw2_CellsAlike at H
 refine enter Try.func14 rfl 97 rfl rfl [(0, vI p0), (1, .slice va1 p1.length vc1)] ⟨rfl, rfl, trivial⟩ ?_
 intro j a hr
 refine sr ?_
 refine ov hr (vB false) (by kernel_rfl) ?_; clear hr a; intro a hr
 refine ln ?_
 refine sr ?_
 replace H := bd1 H; obtain ⟨r1, e2, H⟩ := H
 refine ov hr (vI p0) (by kernel_rfl) ?_; clear hr a; intro a hr
 have hc := plunderlaw2_mod_ok (H := e2) (h := h)
 refine op_call (wn rfl) rfl rfl hr (f := 23) (args := #[vI p0, vI 4097]) (by kernel_rfl) hc ?_; clear hc h
 rintro _ w ⟨rfl, h⟩; refine ⟨_, rfl, ?_⟩
 clear hr a; intro a hr
 refine ov hr (vI r1) (by kernel_rfl) ?_; clear hr a; intro a hr
 refine ln ?_
 refine sr ?_
 refine ovs [15, 5] [.slice va1 p1.length vc1, .slice va1 p1.length vc1] hr ⟨rfl, rfl⟩ (by kernel_rfl) ?_; clear hr a; intro a hr
 refine ln ?_
 refine wp_seq ?_
 refine sr ?_
 refine ovs [16, 17, 18] [.slice va1 p1.length vc1, vI ((p1.length : Nat) : Int), vB (decide (((p1.length : Nat) : Int) > (4096 : Int)))] hr ⟨rfl, rfl⟩ (by kernel_rfl) ?_; clear hr a; intro a hr
 refine ln ?_
 by_cases c3 : ((p1.length : Nat) : Int) > (4096 : Int)
 ·
  replace H := ifT c3 H
  refine cond_tt hr (b := (decide (((p1.length : Nat) : Int) > (4096 : Int)))) (decide_eq_true c3) ?_
  refine wp_region_lit ?_
  replace H := gd H; obtain ⟨c4, H⟩ := H
  refine ov hr (.slice va1 p1.length vc1) (by kernel_rfl) ?_; clear hr a; intro a hr
  refine opv (wn rfl) hr (.slice va1 ((p1.take 4096).length) vc1) (rslr (k := .i64) (E := 57) (sz := 5) (xs := p1) rfl (by kernel_rfl) (by kernel_rfl) (by kernel_rfl) (by kernel_rfl) hc1 c4) ?_; clear hr a; intro a hr
  refine ov hr (.slice va1 ((p1.take 4096).length) vc1) (by kernel_rfl) ?_; clear hr a; intro a hr
  refine ln ?_
  refine sr ?_
  replace H := bd2 H; obtain ⟨r5, r6, e7, H⟩ := H
  refine ovs [22, 23] [vI r1, .slice va1 ((p1.take 4096).length) vc1] hr ⟨rfl, rfl⟩ (by kernel_rfl) ?_; clear hr a; intro a hr
  have hc := cells_Play_ok (va1 := va1) (vc1 := vc1) (hv1 := (RdRow.up 0 (RdRow.take hv1 _))) (H := e7) (h := h)
  refine op_call (wn rfl) rfl rfl hr (f := 38) (args := #[vI r1, .slice va1 ((p1.take 4096).length) vc1]) (by kernel_rfl) hc ?_; clear hc h
  rintro _ w ⟨car8, ccr9, car10, car11, rfl, h⟩; refine ⟨_, rfl, ?_⟩
  clear hr a; intro a hr
  refine ovs [21, 25, 26] [.tuple #[.agg #[.slice car8 r5.Effects.length ccr9, .slice car10 r5.Cells.length r5.Cells.length, .slice car11 r5.Log.length r5.Log.length], vI r6], .agg #[.slice car8 r5.Effects.length ccr9, .slice car10 r5.Cells.length r5.Cells.length, .slice car11 r5.Log.length r5.Log.length], vI r6] hr ⟨rfl, rfl⟩ (by kernel_rfl) ?_; clear hr a; intro a hr
  refine op_new (wn rfl) rfl rfl hr h (vf := fun b => .pointer (some ⟨b, 0, none⟩)) (cs := #[.slice none 0 0, .slice none 0 0, .slice none 0 0]) (T := 70) (by kernel_rfl) ?_; clear h hr a; intro b12 w a h hr
  refine op_stores (wn rfl) rfl hr rfl (by kernel_rfl) (by kernel_rfl) (vs := [.slice car8 r5.Effects.length ccr9, .slice car10 r5.Cells.length r5.Cells.length, .slice car11 r5.Log.length r5.Log.length]) rfl rfl (by kernel_rfl) h (i := 0) (cs' := #[.slice car8 r5.Effects.length ccr9, .slice car10 r5.Cells.length r5.Cells.length, .slice car11 r5.Log.length r5.Log.length]) rfl ?_; clear h; intro w h
  refine ov hr (vI r6) (by kernel_rfl) ?_; clear hr a; intro a hr
  refine wpList_nil ?_
  replace h : Fit z (sepL (ob70 b12 r5 car8 ccr9 car10 r5.Cells.length car11 r5.Log.length :: ro39 car8 ccr9 r5.Effects :: ro2 car10 r5.Cells.length r5.Cells :: ro90 car11 r5.Log.length r5.Log :: L)) _ := h
  refine then_normal ?_
  refine sr ?_
  replace H := bd2 H; obtain ⟨r13, r14, e15, H⟩ := H
  refine ov hr (vI r1) (by kernel_rfl) ?_; clear hr a; intro a hr
  cases r13 with
  | some S16 =>
   have hc := cells_NewShared_ok0 (H := e15) (h := h)
   refine op_call (wn rfl) rfl rfl hr (f := 28) (args := #[vI r1]) (by kernel_rfl) hc ?_; clear hc h
   rintro _ w ⟨Bn17, car18, ccr19, rfl, h⟩; refine ⟨_, rfl, ?_⟩
   clear hr a; intro a hr
   refine ovs [27, 30, 31, 8, 9] [.tuple #[pA Bn17 0, vI r14], pA Bn17 0, vI r14, pA Bn17 0, vI r14] hr ⟨rfl, rfl⟩ (by kernel_rfl) ?_; clear hr a; intro a hr
   refine ln ?_
   replace H := jd0 H; obtain ⟨o21, H, hK20⟩ := H
   refine cut_rule (β := Unit) (fun _ a w => .inl () = o21 ∧ ∃ j, Rep 97 (lk [(5, .slice va1 ((p1.take 4096).length) vc1), (6, pA b12 0), (8, pA Bn17 0)] j) a ∧ Fit z (sepL (ob70 b12 r5 car8 ccr9 car10 r5.Cells.length car11 r5.Log.length :: ro39 car8 ccr9 r5.Effects :: ro2 car10 r5.Cells.length r5.Cells :: ro90 car11 r5.Log.length r5.Log :: ob110 Bn17 S16 car18 ccr19 :: ro107 car18 ccr19 S16.cell :: L)) w) ?_ ?_
   ·
    refine sr ?_
    refine ovs [32, 33, 34] [vI r6, vB (r6 != (0 : Int)), vB (r6 != (0 : Int))] hr ⟨rfl, rfl⟩ (by kernel_rfl) ?_; clear hr a; intro a hr
    by_cases c22 : r6 = (0 : Int)
    ·
     replace H := ifT c22 H
     refine opv (wgt hr (bne_eq_false_iff_eq.mpr c22)) hr (vI r14) (by kernel_rfl) ?_; clear hr a; intro a hr
     refine opv (wgt hr (bne_eq_false_iff_eq.mpr c22)) hr (vB (r14 != (0 : Int))) (by kernel_rfl) ?_; clear hr a; intro a hr
     refine opv (wn rfl) hr (vB (r14 != (0 : Int))) (rp_f (b := (r6 != (0 : Int))) rfl (by kernel_rfl) (bne_eq_false_iff_eq.mpr c22) (by kernel_rfl)) ?_; clear hr a; intro a hr
     refine ov hr (vB (r14 != (0 : Int))) (by kernel_rfl) ?_; clear hr a; intro a hr
     by_cases c23 : r14 = (0 : Int)
     ·
      replace H := ifT c23 H
      refine opv (wgt hr (bne_eq_false_iff_eq.mpr c23)) hr (pA Bn17 0) (by kernel_rfl) ?_; clear hr a; intro a hr
      refine opv (wgt hr (bne_eq_false_iff_eq.mpr c23)) hr (vB false) (by kernel_rfl) ?_; clear hr a; intro a hr
      refine opv (wn rfl) hr (vB false) (rp_f (b := (r14 != (0 : Int))) rfl (by kernel_rfl) (bne_eq_false_iff_eq.mpr c23) (by kernel_rfl)) ?_; clear hr a; intro a hr
      refine ov hr (vB false) (by kernel_rfl) ?_; clear hr a; intro a hr
      refine opv (wgt hr (c := false) rfl) hr (pA b12 0) (by kernel_rfl) ?_; clear hr a; intro a hr
      refine ld (wgt hr (c := false) rfl) hr (.slice car8 r5.Effects.length ccr9) ((h.pick 2).cell 0 rfl) ?_; clear hr a; intro a hr
      refine opv (wgt hr (c := false) rfl) hr (vI ((r5.Effects.length : Nat) : Int)) (by kernel_rfl) ?_; clear hr a; intro a hr
      refine opv (wgt hr (c := false) rfl) hr (.slice va1 ((p1.take 4096).length) vc1) (by kernel_rfl) ?_; clear hr a; intro a hr
      refine opv (wgt hr (c := false) rfl) hr (vI (((p1.take 4096).length : Nat) : Int)) (by kernel_rfl) ?_; clear hr a; intro a hr
      refine opv (wgt hr (c := false) rfl) hr (vB (((r5.Effects.length : Nat) : Int) != (((p1.take 4096).length : Nat) : Int))) (by kernel_rfl) ?_; clear hr a; intro a hr
      refine ov hr (vB (((r5.Effects.length : Nat) : Int) != (((p1.take 4096).length : Nat) : Int))) (by kernel_rfl) ?_; clear hr a; intro a hr
      refine ln ?_
      by_cases c24 : ((r5.Effects.length : Nat) : Int) = (((p1.take 4096).length : Nat) : Int)
      ·
       replace H := ifT c24 H
       refine cond_ff hr (b := (((r5.Effects.length : Nat) : Int) != (((p1.take 4096).length : Nat) : Int))) (bne_eq_false_iff_eq.mpr c24) ?_
       refine wp_skip ?_
       refine then_normal ?_
       replace hr := hr.fold2 [(5, .slice va1 ((p1.take 4096).length) vc1), (6, pA b12 0), (8, pA Bn17 0)] (by kernel_rfl); obtain ⟨j, hr⟩ := hr
       replace h : Fit z (sepL (ob70 b12 r5 car8 ccr9 car10 r5.Cells.length car11 r5.Log.length :: ro39 car8 ccr9 r5.Effects :: ro2 car10 r5.Cells.length r5.Cells :: ro90 car11 r5.Log.length r5.Log :: ob110 Bn17 S16 car18 ccr19 :: ro107 car18 ccr19 S16.cell :: L)) _ := h.sel 6 [2, 3, 4, 5, 0, 1] (by kernel_rfl) (by kernel_rfl)
       exact ⟨(), sinj H, j, hr, h⟩
      ·
       replace H := ifF c24 H
       refine cond_tt hr (b := (((r5.Effects.length : Nat) : Int) != (((p1.take 4096).length : Nat) : Int))) (bne_iff_ne.mpr c24) ?_
       refine sr ?_
       refine ov hr (vB false) (by kernel_rfl) ?_; clear hr a; intro a hr
       refine ln ?_
       refine wp_ret ?_
       refine then_ret ?_
       refine end_ret1 (v := vB false) rfl hr (by kernel_rfl) ?_
       replace H := jx0 H hK20
       replace h : Fit z (sepL (L)) _ := h.sel 6 [] (by kernel_rfl) (by kernel_rfl)
       replace H := ej1 H; subst H
       exact ⟨rfl, h⟩
     ·
      replace H := ifF c23 H
      refine offg (wgt hr (bne_iff_ne.mpr c23)) hr ?_; clear hr a; intro a hr
      refine offg (wgt hr (bne_iff_ne.mpr c23)) hr ?_; clear hr a; intro a hr
      refine opv (wn rfl) hr (vB true) (rp_t (b := (r14 != (0 : Int))) rfl (by kernel_rfl) (bne_iff_ne.mpr c23) (by kernel_rfl)) ?_; clear hr a; intro a hr
      refine ov hr (vB true) (by kernel_rfl) ?_; clear hr a; intro a hr
      refine offg (wgt hr (c := true) rfl) hr ?_; clear hr a; intro a hr
      refine offg (wgt hr (c := true) rfl) hr ?_; clear hr a; intro a hr
      refine offg (wgt hr (c := true) rfl) hr ?_; clear hr a; intro a hr
      refine offg (wgt hr (c := true) rfl) hr ?_; clear hr a; intro a hr
      refine offg (wgt hr (c := true) rfl) hr ?_; clear hr a; intro a hr
      refine offg (wgt hr (c := true) rfl) hr ?_; clear hr a; intro a hr
      refine ov hr (vB true) (by kernel_rfl) ?_; clear hr a; intro a hr
      refine ln ?_
      refine cond_tt hr (b := true) rfl ?_
      refine sr ?_
      refine ov hr (vB false) (by kernel_rfl) ?_; clear hr a; intro a hr
      refine ln ?_
      refine wp_ret ?_
      refine then_ret ?_
      refine end_ret1 (v := vB false) rfl hr (by kernel_rfl) ?_
      replace H := jx0 H hK20
      replace h : Fit z (sepL (L)) _ := h.sel 6 [] (by kernel_rfl) (by kernel_rfl)
      replace H := ej1 H; subst H
      exact ⟨rfl, h⟩
    ·
     replace H := ifF c22 H
     refine offg (wgt hr (bne_iff_ne.mpr c22)) hr ?_; clear hr a; intro a hr
     refine offg (wgt hr (bne_iff_ne.mpr c22)) hr ?_; clear hr a; intro a hr
     refine opv (wn rfl) hr (vB true) (rp_t (b := (r6 != (0 : Int))) rfl (by kernel_rfl) (bne_iff_ne.mpr c22) (by kernel_rfl)) ?_; clear hr a; intro a hr
     refine ov hr (vB true) (by kernel_rfl) ?_; clear hr a; intro a hr
     refine offg (wgt hr (c := true) rfl) hr ?_; clear hr a; intro a hr
     refine offg (wgt hr (c := true) rfl) hr ?_; clear hr a; intro a hr
     refine ovs [41, 42] [vB true, vB true] hr ⟨rfl, rfl⟩ (by kernel_rfl) ?_; clear hr a; intro a hr
     refine offg (wgt hr (c := true) rfl) hr ?_; clear hr a; intro a hr
     refine offg (wgt hr (c := true) rfl) hr ?_; clear hr a; intro a hr
     refine offg (wgt hr (c := true) rfl) hr ?_; clear hr a; intro a hr
     refine offg (wgt hr (c := true) rfl) hr ?_; clear hr a; intro a hr
     refine offg (wgt hr (c := true) rfl) hr ?_; clear hr a; intro a hr
     refine offg (wgt hr (c := true) rfl) hr ?_; clear hr a; intro a hr
     refine ov hr (vB true) (by kernel_rfl) ?_; clear hr a; intro a hr
     refine ln ?_
     refine cond_tt hr (b := true) rfl ?_
     refine sr ?_
     refine ov hr (vB false) (by kernel_rfl) ?_; clear hr a; intro a hr
     refine ln ?_
     refine wp_ret ?_
     refine then_ret ?_
     refine end_ret1 (v := vB false) rfl hr (by kernel_rfl) ?_
     replace H := jx0 H hK20
     replace h : Fit z (sepL (L)) _ := h.sel 6 [] (by kernel_rfl) (by kernel_rfl)
     replace H := ej1 H; subst H
     exact ⟨rfl, h⟩
   clear h hr a; rintro _ a w ⟨rfl, j, hr, h⟩
   replace H := jk0 hK20
   replace H := jd1 H; obtain ⟨o29, H, hK28⟩ := H
   refine cut_rule (β := Unit) (fun _ a w => ∃ ca26 : Option Addr, ∃ cc27 : Nat, ∃ S25 : T_cells_Shared, .inl S25 = o29 ∧ ∃ j, Rep 97 (lk [(6, pA b12 0), (8, pA Bn17 0)] j) a ∧ Fit z (sepL (ob70 b12 r5 car8 ccr9 car10 r5.Cells.length car11 r5.Log.length :: ro39 car8 ccr9 r5.Effects :: ro2 car10 r5.Cells.length r5.Cells :: ro90 car11 r5.Log.length r5.Log :: ob110 Bn17 S25 ca26 cc27 :: ro107 ca26 cc27 S25.cell :: L)) w) ?_ ?_
   ·
    refine sr ?_
    refine ov hr (vI 0) (by kernel_rfl) ?_; clear hr a; intro a hr
    refine ln ?_
    refine wp_block ?_
    replace hr := hr.fold2 [(5, .slice va1 ((p1.take 4096).length) vc1), (6, pA b12 0), (8, pA Bn17 0), (10, vI 0)] (by kernel_rfl); obtain ⟨j, hr⟩ := hr
    refine loop_rule (β := Nat) id (fun m a w => ∃ ca31 : Option Addr, ∃ cc32 : Nat, ∃ S30 : T_cells_Shared, ∃ g33 : Int, (plunderlaw2_CellsAlike_l1 K p1 r5 m S30 g33) = some o29 ∧ ∃ j, Rep 97 (lk [(5, .slice va1 ((p1.take 4096).length) vc1), (6, pA b12 0), (8, pA Bn17 0), (10, vI g33)] j) a ∧ Fit z (sepL (ob70 b12 r5 car8 ccr9 car10 r5.Cells.length car11 r5.Log.length :: ro39 car8 ccr9 r5.Effects :: ro2 car10 r5.Cells.length r5.Cells :: ro90 car11 r5.Log.length r5.Log :: ob110 Bn17 S30 ca31 cc32 :: ro107 ca31 cc32 S30.cell :: L)) w) K ⟨car18, ccr19, S16, 0, H, j, hr, h⟩ ?_
    clear h hr a H; rintro k1 a w ⟨ca31, cc32, S30, g33, H, j, hr, h⟩
    cases k1 with
    | zero => exact absurd H (by simp [plunderlaw2_CellsAlike_l1])
    | succ k1 =>
     rw [plunderlaw2_CellsAlike_l1] at H
     refine wp_seq ?_
     refine sr ?_
     refine ovs [50, 51, 52, 53] [vI g33, .slice va1 ((p1.take 4096).length) vc1, vI (((p1.take 4096).length : Nat) : Int), vB (decide (g33 < (((p1.take 4096).length : Nat) : Int)))] hr ⟨rfl, rfl⟩ (by kernel_rfl) ?_; clear hr a; intro a hr
     refine ln ?_
     by_cases c34 : g33 < (((p1.take 4096).length : Nat) : Int)
     ·
      replace H := ifT c34 H
      refine cond_tt hr (b := (decide (g33 < (((p1.take 4096).length : Nat) : Int)))) (decide_eq_true c34) ?_
      refine wp_skip ?_
      refine then_normal ?_
      refine wp_seq ?_
      refine wp_block ?_
      refine sr ?_
      replace H := gd H; obtain ⟨c35, H⟩ := H
      refine ovs [56, 57] [.slice va1 ((p1.take 4096).length) vc1, vI g33] hr ⟨rfl, rfl⟩ (by kernel_rfl) ?_; clear hr a; intro a hr
      refine opv (wn rfl) hr (pA (blk va1) (offs va1 + g33.toNat * 5)) (ri_rd (k := .i64) (E := 57) (cc := vc1) rfl (by kernel_rfl) (by kernel_rfl) rfl (by kernel_rfl) (by kernel_rfl) (RdRow.take hv1 _) c35) ?_; clear hr a; intro a hr
      refine ldm (wn rfl) hr (ag_T_api_Act (at_ (p1.take 4096) g33.toNat)) (cs := cl_T_api_Act (at_ (p1.take 4096) g33.toNat)) ⟨(RdRow.take hv1 _).cell c35 (h.dn 6) 0 rfl, (RdRow.take hv1 _).cell c35 (h.dn 6) 1 rfl, (RdRow.take hv1 _).cell c35 (h.dn 6) 2 rfl, (RdRow.take hv1 _).cell c35 (h.dn 6) 3 rfl, (RdRow.take hv1 _).cell c35 (h.dn 6) 4 rfl, trivial⟩ ?_; clear hr a; intro a hr
      refine op_new (wn rfl) rfl rfl hr h (vf := fun b => .pointer (some ⟨b, 0, none⟩)) (cs := #[vI 0, vI 0, vI 0, vI 0, vI 0]) (T := 57) (by kernel_rfl) ?_; clear h hr a; intro b36 w a h hr
      refine op_stores (wn rfl) rfl hr rfl (by kernel_rfl) (by kernel_rfl) (vs := cl_T_api_Act (at_ (p1.take 4096) g33.toNat)) rfl rfl (by kernel_rfl) h (i := 0) (cs' := ca_T_api_Act (at_ (p1.take 4096) g33.toNat)) rfl ?_; clear h; intro w h
      refine wpList_nil ?_
      replace h : Fit z (sepL (ob57 b36 (at_ (p1.take 4096) g33.toNat) :: ob70 b12 r5 car8 ccr9 car10 r5.Cells.length car11 r5.Log.length :: ro39 car8 ccr9 r5.Effects :: ro2 car10 r5.Cells.length r5.Cells :: ro90 car11 r5.Log.length r5.Log :: ob110 Bn17 S30 ca31 cc32 :: ro107 ca31 cc32 S30.cell :: L)) _ := h
      refine then_normal ?_
      refine wp_seq ?_
      refine sr ?_
      refine ov hr (pA b36 1) (by kernel_rfl) ?_; clear hr a; intro a hr
      refine ld (wn rfl) hr (vI ((at_ (p1.take 4096) g33.toNat).Kind)) (h.cell 1 rfl) ?_; clear hr a; intro a hr
      refine ovs [62, 63] [vB (decide (((at_ (p1.take 4096) g33.toNat).Kind) < (0 : Int))), vB (decide (((at_ (p1.take 4096) g33.toNat).Kind) < (0 : Int)))] hr ⟨rfl, rfl⟩ (by kernel_rfl) ?_; clear hr a; intro a hr
      by_cases c37 : ((at_ (p1.take 4096) g33.toNat).Kind) < (0 : Int)
      ·
       replace H := ifT c37 H
       refine offg (wgt hr (decide_eq_true c37)) hr ?_; clear hr a; intro a hr
       refine offg (wgt hr (decide_eq_true c37)) hr ?_; clear hr a; intro a hr
       refine offg (wgt hr (decide_eq_true c37)) hr ?_; clear hr a; intro a hr
       refine opv (wn rfl) hr (vB true) (rp_t (b := (decide (((at_ (p1.take 4096) g33.toNat).Kind) < (0 : Int)))) rfl (by kernel_rfl) (decide_eq_true c37) (by kernel_rfl)) ?_; clear hr a; intro a hr
       refine ln ?_
       refine cond_tt hr (b := true) rfl ?_
       refine wp_seq ?_
       refine sr ?_
       refine ov hr (pA b12 0) (by kernel_rfl) ?_; clear hr a; intro a hr
       refine ld (wn rfl) hr (.slice car8 r5.Effects.length ccr9) ((h.pick 1).cell 0 rfl) ?_; clear hr a; intro a hr
       replace H := gd H; obtain ⟨c38, H⟩ := H
       refine ov hr (vI g33) (by kernel_rfl) ?_; clear hr a; intro a hr
       refine opv (wn rfl) hr (pA (blk car8) (g33.toNat * 3)) (ri_row (k := .i64) (E := 39) rfl (by kernel_rfl) (by kernel_rfl) (by kernel_rfl) (by kernel_rfl) (h.pick 2) c38) ?_; clear hr a; intro a hr
       refine ov hr (pA (blk car8) (g33.toNat * 3 + 2)) (by kernel_rfl) ?_; clear hr a; intro a hr
       refine ld (wn rfl) hr (vI ((at_ r5.Effects g33.toNat).Err)) ((h.pick 2).row_cell enc_T_api_Effect_ok (f := 2) (at_ok c38) rfl) ?_; clear hr a; intro a hr
       refine ov hr (vB (((at_ r5.Effects g33.toNat).Err) == (0 : Int))) (by kernel_rfl) ?_; clear hr a; intro a hr
       refine ln ?_
       by_cases c39 : ((at_ r5.Effects g33.toNat).Err) = (0 : Int)
       ·
        replace H := ifT c39 H
        refine cond_tt hr (b := (((at_ r5.Effects g33.toNat).Err) == (0 : Int))) (beq_iff_eq.mpr c39) ?_
        refine sr ?_
        refine ov hr (vB false) (by kernel_rfl) ?_; clear hr a; intro a hr
        refine ln ?_
        refine wp_ret ?_
        refine then_ret ?_
        refine then_ret ?_
        refine blk_ret ?_
        refine then_ret ?_
        refine then_ret ?_
        refine blk_ret ?_
        refine then_ret ?_
        refine end_ret1 (v := vB false) rfl hr (by kernel_rfl) ?_
        replace H := jx1 H hK28
        replace h : Fit z (sepL (L)) _ := h.sel 7 [] (by kernel_rfl) (by kernel_rfl)
        replace H := ej1 H; subst H
        exact ⟨rfl, h⟩
       ·
        replace H := ifF c39 H
        refine cond_ff hr (b := (((at_ r5.Effects g33.toNat).Err) == (0 : Int))) (beq_eq_false_iff_ne.mpr c39) ?_
        refine wp_skip ?_
        refine then_normal ?_
        refine wp_exit ?_
        refine then_exit ?_
        refine blk_here ?_
        refine then_normal ?_
        refine wp_region_lit ?_
        refine ovs [54, 55, 10] [vI g33, vI (wi (g33 + (1 : Int))), vI (wi (g33 + (1 : Int)))] hr ⟨rfl, rfl⟩ (by kernel_rfl) ?_; clear hr a; intro a hr
        refine ln ?_
        replace hr := hr.fold2 [(5, .slice va1 ((p1.take 4096).length) vc1), (6, pA b12 0), (8, pA Bn17 0), (10, vI (wi (g33 + (1 : Int))))] (by kernel_rfl); obtain ⟨j, hr⟩ := hr
        replace h : Fit z (sepL (ob70 b12 r5 car8 ccr9 car10 r5.Cells.length car11 r5.Log.length :: ro39 car8 ccr9 r5.Effects :: ro2 car10 r5.Cells.length r5.Cells :: ro90 car11 r5.Log.length r5.Log :: ob110 Bn17 S30 ca31 cc32 :: ro107 ca31 cc32 S30.cell :: L)) _ := h.sel 7 [1, 2, 3, 4, 5, 6] (by kernel_rfl) (by kernel_rfl)
        exact ⟨_, ⟨ca31, cc32, S30, (wi (g33 + (1 : Int))), H, j, hr, h⟩, Nat.lt_succ_self _⟩
      ·
       replace H := ifF c37 H
       refine opv (wgt hr (decide_eq_false c37)) hr (pA b36 1) (by kernel_rfl) ?_; clear hr a; intro a hr
       refine ld (wgt hr (decide_eq_false c37)) hr (vI ((at_ (p1.take 4096) g33.toNat).Kind)) (h.cell 1 rfl) ?_; clear hr a; intro a hr
       refine opv (wgt hr (decide_eq_false c37)) hr (vB (decide (((at_ (p1.take 4096) g33.toNat).Kind) > (4 : Int)))) (by kernel_rfl) ?_; clear hr a; intro a hr
       refine opv (wn rfl) hr (vB (decide (((at_ (p1.take 4096) g33.toNat).Kind) > (4 : Int)))) (rp_f (b := (decide (((at_ (p1.take 4096) g33.toNat).Kind) < (0 : Int)))) rfl (by kernel_rfl) (decide_eq_false c37) (by kernel_rfl)) ?_; clear hr a; intro a hr
       refine ln ?_
       by_cases c40 : ((at_ (p1.take 4096) g33.toNat).Kind) > (4 : Int)
       ·
        replace H := ifT c40 H
        refine cond_tt hr (b := (decide (((at_ (p1.take 4096) g33.toNat).Kind) > (4 : Int)))) (decide_eq_true c40) ?_
        refine wp_seq ?_
        refine sr ?_
        refine ov hr (pA b12 0) (by kernel_rfl) ?_; clear hr a; intro a hr
        refine ld (wn rfl) hr (.slice car8 r5.Effects.length ccr9) ((h.pick 1).cell 0 rfl) ?_; clear hr a; intro a hr
        replace H := gd H; obtain ⟨c41, H⟩ := H
        refine ov hr (vI g33) (by kernel_rfl) ?_; clear hr a; intro a hr
        refine opv (wn rfl) hr (pA (blk car8) (g33.toNat * 3)) (ri_row (k := .i64) (E := 39) rfl (by kernel_rfl) (by kernel_rfl) (by kernel_rfl) (by kernel_rfl) (h.pick 2) c41) ?_; clear hr a; intro a hr
        refine ov hr (pA (blk car8) (g33.toNat * 3 + 2)) (by kernel_rfl) ?_; clear hr a; intro a hr
        refine ld (wn rfl) hr (vI ((at_ r5.Effects g33.toNat).Err)) ((h.pick 2).row_cell enc_T_api_Effect_ok (f := 2) (at_ok c41) rfl) ?_; clear hr a; intro a hr
        refine ov hr (vB (((at_ r5.Effects g33.toNat).Err) == (0 : Int))) (by kernel_rfl) ?_; clear hr a; intro a hr
        refine ln ?_
        by_cases c42 : ((at_ r5.Effects g33.toNat).Err) = (0 : Int)
        ·
         replace H := ifT c42 H
         refine cond_tt hr (b := (((at_ r5.Effects g33.toNat).Err) == (0 : Int))) (beq_iff_eq.mpr c42) ?_
         refine sr ?_
         refine ov hr (vB false) (by kernel_rfl) ?_; clear hr a; intro a hr
         refine ln ?_
         refine wp_ret ?_
         refine then_ret ?_
         refine then_ret ?_
         refine blk_ret ?_
         refine then_ret ?_
         refine then_ret ?_
         refine blk_ret ?_
         refine then_ret ?_
         refine end_ret1 (v := vB false) rfl hr (by kernel_rfl) ?_
         replace H := jx1 H hK28
         replace h : Fit z (sepL (L)) _ := h.sel 7 [] (by kernel_rfl) (by kernel_rfl)
         replace H := ej1 H; subst H
         exact ⟨rfl, h⟩
        ·
         replace H := ifF c42 H
         refine cond_ff hr (b := (((at_ r5.Effects g33.toNat).Err) == (0 : Int))) (beq_eq_false_iff_ne.mpr c42) ?_
         refine wp_skip ?_
         refine then_normal ?_
         refine wp_exit ?_
         refine then_exit ?_
         refine blk_here ?_
         refine then_normal ?_
         refine wp_region_lit ?_
         refine ovs [54, 55, 10] [vI g33, vI (wi (g33 + (1 : Int))), vI (wi (g33 + (1 : Int)))] hr ⟨rfl, rfl⟩ (by kernel_rfl) ?_; clear hr a; intro a hr
         refine ln ?_
         replace hr := hr.fold2 [(5, .slice va1 ((p1.take 4096).length) vc1), (6, pA b12 0), (8, pA Bn17 0), (10, vI (wi (g33 + (1 : Int))))] (by kernel_rfl); obtain ⟨j, hr⟩ := hr
         replace h : Fit z (sepL (ob70 b12 r5 car8 ccr9 car10 r5.Cells.length car11 r5.Log.length :: ro39 car8 ccr9 r5.Effects :: ro2 car10 r5.Cells.length r5.Cells :: ro90 car11 r5.Log.length r5.Log :: ob110 Bn17 S30 ca31 cc32 :: ro107 ca31 cc32 S30.cell :: L)) _ := h.sel 7 [1, 2, 3, 4, 5, 6] (by kernel_rfl) (by kernel_rfl)
         exact ⟨_, ⟨ca31, cc32, S30, (wi (g33 + (1 : Int))), H, j, hr, h⟩, Nat.lt_succ_self _⟩
       ·
        replace H := ifF c40 H
        refine cond_ff hr (b := (decide (((at_ (p1.take 4096) g33.toNat).Kind) > (4 : Int)))) (decide_eq_false c40) ?_
        refine wp_skip ?_
        refine then_normal ?_
        refine sr ?_
        refine ovs [75, 76] [pA Bn17 0, pA b36 1] hr ⟨rfl, rfl⟩ (by kernel_rfl) ?_; clear hr a; intro a hr
        refine ld (wn rfl) hr (vI ((at_ (p1.take 4096) g33.toNat).Kind)) (h.cell 1 rfl) ?_; clear hr a; intro a hr
        refine ov hr (pA b36 2) (by kernel_rfl) ?_; clear hr a; intro a hr
        refine ld (wn rfl) hr (vI ((at_ (p1.take 4096) g33.toNat).Addr)) (h.cell 2 rfl) ?_; clear hr a; intro a hr
        refine ov hr (pA b36 3) (by kernel_rfl) ?_; clear hr a; intro a hr
        refine ld (wn rfl) hr (vI ((at_ (p1.take 4096) g33.toNat).A)) (h.cell 3 rfl) ?_; clear hr a; intro a hr
        refine ov hr (pA b36 4) (by kernel_rfl) ?_; clear hr a; intro a hr
        refine ld (wn rfl) hr (vI ((at_ (p1.take 4096) g33.toNat).B)) (h.cell 4 rfl) ?_; clear hr a; intro a hr
        replace H := bd2 H; obtain ⟨r43, S44, e45, H⟩ := H
        refine ov hr (.agg #[vI 0, vI ((at_ (p1.take 4096) g33.toNat).Kind), vI ((at_ (p1.take 4096) g33.toNat).Addr), vI ((at_ (p1.take 4096) g33.toNat).A), vI ((at_ (p1.take 4096) g33.toNat).B)]) (by kernel_rfl) ?_; clear hr a; intro a hr
        replace h : Fit z (sepL (ob110 Bn17 S30 ca31 cc32 :: ro107 ca31 cc32 S30.cell :: ob57 b36 (at_ (p1.take 4096) g33.toNat) :: ob70 b12 r5 car8 ccr9 car10 r5.Cells.length car11 r5.Log.length :: ro39 car8 ccr9 r5.Effects :: ro2 car10 r5.Cells.length r5.Cells :: ro90 car11 r5.Log.length r5.Log :: L)) _ := h.sel 7 [5, 6, 0, 1, 2, 3, 4] (by kernel_rfl) (by kernel_rfl)
        have hc := plunderlaw2_shared_ok (H := e45) (h := h)
        refine op_call (wn rfl) rfl rfl hr (f := 29) (args := #[pA Bn17 0, .agg #[vI 0, vI ((at_ (p1.take 4096) g33.toNat).Kind), vI ((at_ (p1.take 4096) g33.toNat).Addr), vI ((at_ (p1.take 4096) g33.toNat).A), vI ((at_ (p1.take 4096) g33.toNat).B)]]) (by kernel_rfl) hc ?_; clear hc h
        rintro _ w ⟨caq46, ccq47, rfl, h⟩; refine ⟨_, rfl, ?_⟩
        clear hr a; intro a hr
        refine op_new (wn rfl) rfl rfl hr h (vf := fun b => .pointer (some ⟨b, 0, none⟩)) (cs := #[vI 0, vB false, vI 0]) (T := 39) (by kernel_rfl) ?_; clear h hr a; intro b48 w a h hr
        refine op_stores (wn rfl) rfl hr rfl (by kernel_rfl) (by kernel_rfl) (vs := cl_T_api_Effect r43) rfl rfl (by kernel_rfl) h (i := 0) (cs' := ca_T_api_Effect r43) rfl ?_; clear h; intro w h
        refine wpList_nil ?_
        replace h : Fit z (sepL (ob39 b48 r43 :: ob110 Bn17 S44 caq46 ccq47 :: ro107 caq46 ccq47 S44.cell :: ob57 b36 (at_ (p1.take 4096) g33.toNat) :: ob70 b12 r5 car8 ccr9 car10 r5.Cells.length car11 r5.Log.length :: ro39 car8 ccr9 r5.Effects :: ro2 car10 r5.Cells.length r5.Cells :: ro90 car11 r5.Log.length r5.Log :: L)) _ := h
        refine then_normal ?_
        refine wp_seq ?_
        replace H := gd H; obtain ⟨c49, H⟩ := H
        refine reg_E (fun w => heldC w b48 0 (cl_T_api_Effect r43) ∧ heldC w b12 0 ([.slice car8 r5.Effects.length ccr9]) ∧ heldC w (blk car8) (g33.toNat * 3) (cl_T_api_Effect (at_ r5.Effects g33.toNat)) ∧ True) [1, 4] h (by kernel_rfl) ?_; intro w h
        change wpAnyE _ _ _ _ _ _ 7 (Array.replicate 7 false) a w
        have hgo : ∀ w w', CellsGo w w' → (heldC w b48 0 (cl_T_api_Effect r43) ∧ heldC w b12 0 ([.slice car8 r5.Effects.length ccr9]) ∧ heldC w (blk car8) (g33.toNat * 3) (cl_T_api_Effect (at_ r5.Effects g33.toNat)) ∧ True) → heldC w' b48 0 (cl_T_api_Effect r43) ∧ heldC w' b12 0 ([.slice car8 r5.Effects.length ccr9]) ∧ heldC w' (blk car8) (g33.toNat * 3) (cl_T_api_Effect (at_ r5.Effects g33.toNat)) ∧ True := fun w w' g hD => ⟨heldC_go _ _ _ _ _ g hD.1, heldC_go _ _ _ _ _ g hD.2.1, heldC_go _ _ _ _ _ g hD.2.2.1, trivial⟩
        refine evD hgo ⟨(h.held 0 rfl), ⟨(h.pick 4).cell 0 rfl, trivial⟩, ⟨(h.pick 5).row_cell enc_T_api_Effect_ok (f := 0) (at_ok c49) rfl, (h.pick 5).row_cell enc_T_api_Effect_ok (f := 1) (at_ok c49) rfl, (h.pick 5).row_cell enc_T_api_Effect_ok (f := 2) (at_ok c49) rfl, trivial⟩, trivial⟩ 6 1 rfl (by kernel_rfl) (wn rfl) hr (pA b12 0) (fun w => by kernel_rfl) ?_; clear hr a; intro a hr
        refine ev 5 3 rfl (by kernel_rfl) (wn rfl) hr (vI g33) (fun w => by kernel_rfl) ?_; clear hr a; intro a hr
        refine el [1, 4] (b := b48) (off := 0) (cs := cl_T_api_Effect r43) (fun _ hk => ⟨hk, fun w hD => hD.1⟩) 4 0 rfl (by kernel_rfl) (wn rfl) hr (ag_T_api_Effect r43) (h.held 0 rfl) (fun w hc => rlm (cs := cl_T_api_Effect r43) rfl (by kernel_rfl) (by kernel_rfl) (by kernel_rfl) hc) ?_; clear hr a; intro a hr
        refine el [1, 4] (b := b12) (off := 0) (cs := [.slice car8 r5.Effects.length ccr9]) (fun _ hk => ⟨hk, fun w hD => hD.2.1⟩) 3 2 rfl (by kernel_rfl) (wn rfl) hr (.slice car8 r5.Effects.length ccr9) ⟨(h.pick 4).cell 0 rfl, trivial⟩ (fun w hc => rl rfl (by kernel_rfl) (by kernel_rfl) hc.1) ?_; clear hr a; intro a hr
        refine evD hgo ⟨(h.held 0 rfl), ⟨(h.pick 4).cell 0 rfl, trivial⟩, ⟨(h.pick 5).row_cell enc_T_api_Effect_ok (f := 0) (at_ok c49) rfl, (h.pick 5).row_cell enc_T_api_Effect_ok (f := 1) (at_ok c49) rfl, (h.pick 5).row_cell enc_T_api_Effect_ok (f := 2) (at_ok c49) rfl, trivial⟩, trivial⟩ 2 4 rfl (by kernel_rfl) (wn rfl) hr (pA (blk car8) (g33.toNat * 3)) (fun w => ri_row (k := .i64) (E := 39) rfl (by kernel_rfl) (by kernel_rfl) (by kernel_rfl) (by kernel_rfl) (h.pick 5) c49) ?_; clear hr a; intro a hr
        refine el [1, 4] (b := blk car8) (off := g33.toNat * 3) (cs := cl_T_api_Effect (at_ r5.Effects g33.toNat)) (fun _ hk => ⟨hk, fun w hD => hD.2.2.1⟩) 1 5 rfl (by kernel_rfl) (wn rfl) hr (ag_T_api_Effect (at_ r5.Effects g33.toNat)) ⟨(h.pick 5).row_cell enc_T_api_Effect_ok (f := 0) (at_ok c49) rfl, (h.pick 5).row_cell enc_T_api_Effect_ok (f := 1) (at_ok c49) rfl, (h.pick 5).row_cell enc_T_api_Effect_ok (f := 2) (at_ok c49) rfl, trivial⟩ (fun w hc => rlm (cs := cl_T_api_Effect (at_ r5.Effects g33.toNat)) rfl (by kernel_rfl) (by kernel_rfl) (by kernel_rfl) hc) ?_; clear hr a; intro a hr
        refine ev 0 6 rfl (by kernel_rfl) (wn rfl) hr (vB (!(decide (r43 = at_ r5.Effects g33.toNat)))) (fun w => rb (rne rfl (by kernel_rfl) (by kernel_rfl) (by kernel_rfl) (by kernel_rfl) (by kernel_rfl) (by kernel_rfl)) (congrArg (!·) (eq_T_api_Effect r43 (at_ r5.Effects g33.toNat)))) ?_; clear hr a; intro a hr
        refine e_end (by kernel_rfl) ?_
        refine then_normal ?_
        by_cases c50 : r43 = at_ r5.Effects g33.toNat
        ·
         replace H := ifT c50 H
         refine cond_ff hr (b := (!(decide (r43 = at_ r5.Effects g33.toNat)))) (by rw [show (decide (r43 = at_ r5.Effects g33.toNat)) = true from (decide_eq_true c50)]; rfl) ?_
         refine wp_skip ?_
         refine blk_normal ?_
         refine then_normal ?_
         refine wp_region_lit ?_
         refine ovs [54, 55, 10] [vI g33, vI (wi (g33 + (1 : Int))), vI (wi (g33 + (1 : Int)))] hr ⟨rfl, rfl⟩ (by kernel_rfl) ?_; clear hr a; intro a hr
         refine ln ?_
         replace hr := hr.fold2 [(5, .slice va1 ((p1.take 4096).length) vc1), (6, pA b12 0), (8, pA Bn17 0), (10, vI (wi (g33 + (1 : Int))))] (by kernel_rfl); obtain ⟨j, hr⟩ := hr
         replace h : Fit z (sepL (ob70 b12 r5 car8 ccr9 car10 r5.Cells.length car11 r5.Log.length :: ro39 car8 ccr9 r5.Effects :: ro2 car10 r5.Cells.length r5.Cells :: ro90 car11 r5.Log.length r5.Log :: ob110 Bn17 S44 caq46 ccq47 :: ro107 caq46 ccq47 S44.cell :: L)) _ := h.sel 8 [4, 5, 6, 7, 1, 2] (by kernel_rfl) (by kernel_rfl)
         exact ⟨_, ⟨caq46, ccq47, S44, (wi (g33 + (1 : Int))), H, j, hr, h⟩, Nat.lt_succ_self _⟩
        ·
         replace H := ifF c50 H
         refine cond_tt hr (b := (!(decide (r43 = at_ r5.Effects g33.toNat)))) (by rw [show (decide (r43 = at_ r5.Effects g33.toNat)) = false from (decide_eq_false c50)]; rfl) ?_
         refine sr ?_
         refine ov hr (vB false) (by kernel_rfl) ?_; clear hr a; intro a hr
         refine ln ?_
         refine wp_ret ?_
         refine blk_ret ?_
         refine then_ret ?_
         refine then_ret ?_
         refine blk_ret ?_
         refine then_ret ?_
         refine end_ret1 (v := vB false) rfl hr (by kernel_rfl) ?_
         replace H := jx1 H hK28
         replace h : Fit z (sepL (L)) _ := h.sel 8 [] (by kernel_rfl) (by kernel_rfl)
         replace H := ej1 H; subst H
         exact ⟨rfl, h⟩
     ·
      replace H := ifF c34 H
      refine cond_ff hr (b := (decide (g33 < (((p1.take 4096).length : Nat) : Int)))) (decide_eq_false c34) ?_
      refine wp_exit ?_
      refine then_exit ?_
      refine then_exit ?_
      refine blk_here ?_
      refine then_normal ?_
      replace hr := hr.fold2 [(6, pA b12 0), (8, pA Bn17 0)] (by kernel_rfl); obtain ⟨j, hr⟩ := hr
      exact ⟨(), ca31, cc32, S30, sinj H, j, hr, h⟩
   clear h hr a; rintro _ a w ⟨ca26, cc27, S25, rfl, j, hr, h⟩
   replace H := jk1 hK28
   refine sr ?_
   refine ovs [93, 94] [pA Bn17 0, pA b12 1] hr ⟨rfl, rfl⟩ (by kernel_rfl) ?_; clear hr a; intro a hr
   refine ld (wn rfl) hr (.slice car10 r5.Cells.length r5.Cells.length) (h.cell 1 rfl) ?_; clear hr a; intro a hr
   replace H := bd2 H; obtain ⟨r51, S52, e53, H⟩ := H
   replace h : Fit z (sepL (ob110 Bn17 S25 ca26 cc27 :: ro107 ca26 cc27 S25.cell :: ob70 b12 r5 car8 ccr9 car10 r5.Cells.length car11 r5.Log.length :: ro39 car8 ccr9 r5.Effects :: ro2 car10 r5.Cells.length r5.Cells :: ro90 car11 r5.Log.length r5.Log :: L)) _ := h.sel 6 [4, 5, 0, 1, 2, 3] (by kernel_rfl) (by kernel_rfl)
   have hc := plunderlaw2_holds_ok (va1 := car10) (vc1 := r5.Cells.length) (hv1 := (RdRow.of_row encZ_i64_ok (h.pick 4) (fun h => (h.pick 2)))) (H := e53) (h := h)
   refine op_call (wn rfl) rfl rfl hr (f := 34) (args := #[pA Bn17 0, .slice car10 r5.Cells.length r5.Cells.length]) (by kernel_rfl) hc ?_; clear hc h
   rintro _ w ⟨caq54, ccq55, rfl, h⟩; refine ⟨_, rfl, ?_⟩
   clear hr a; intro a hr
   refine ov hr (vB r51) (by kernel_rfl) ?_; clear hr a; intro a hr
   refine ln ?_
   refine wp_ret ?_
   refine end_ret1 (v := vB r51) rfl hr (by kernel_rfl) ?_
   replace h : Fit z (sepL (L)) _ := h.sel 6 [] (by kernel_rfl) (by kernel_rfl)
   replace H := ej1 H; subst H
   exact ⟨rfl, h⟩
  | none =>
   have hc := cells_NewShared_ok1 (H := e15) (h := h)
   refine op_call (wn rfl) rfl rfl hr (f := 28) (args := #[vI r1]) (by kernel_rfl) hc ?_; clear hc h
   rintro _ w ⟨rfl, h⟩; refine ⟨_, rfl, ?_⟩
   clear hr a; intro a hr
   refine ovs [27, 30, 31, 8, 9] [.tuple #[pN, vI r14], pN, vI r14, pN, vI r14] hr ⟨rfl, rfl⟩ (by kernel_rfl) ?_; clear hr a; intro a hr
   refine ln ?_
   refine wp_seq ?_
   refine sr ?_
   refine ovs [32, 33, 34] [vI r6, vB (r6 != (0 : Int)), vB (r6 != (0 : Int))] hr ⟨rfl, rfl⟩ (by kernel_rfl) ?_; clear hr a; intro a hr
   by_cases c56 : r6 = (0 : Int)
   ·
    replace H := ifT c56 H
    refine opv (wgt hr (bne_eq_false_iff_eq.mpr c56)) hr (vI r14) (by kernel_rfl) ?_; clear hr a; intro a hr
    refine opv (wgt hr (bne_eq_false_iff_eq.mpr c56)) hr (vB (r14 != (0 : Int))) (by kernel_rfl) ?_; clear hr a; intro a hr
    refine opv (wn rfl) hr (vB (r14 != (0 : Int))) (rp_f (b := (r6 != (0 : Int))) rfl (by kernel_rfl) (bne_eq_false_iff_eq.mpr c56) (by kernel_rfl)) ?_; clear hr a; intro a hr
    refine ov hr (vB (r14 != (0 : Int))) (by kernel_rfl) ?_; clear hr a; intro a hr
    by_cases c57 : r14 = (0 : Int)
    ·
     replace H := ifT c57 H
     refine opv (wgt hr (bne_eq_false_iff_eq.mpr c57)) hr (pN) (by kernel_rfl) ?_; clear hr a; intro a hr
     refine opv (wgt hr (bne_eq_false_iff_eq.mpr c57)) hr (vB true) (by kernel_rfl) ?_; clear hr a; intro a hr
     refine opv (wn rfl) hr (vB true) (rp_f (b := (r14 != (0 : Int))) rfl (by kernel_rfl) (bne_eq_false_iff_eq.mpr c57) (by kernel_rfl)) ?_; clear hr a; intro a hr
     refine ov hr (vB true) (by kernel_rfl) ?_; clear hr a; intro a hr
     refine offg (wgt hr (c := true) rfl) hr ?_; clear hr a; intro a hr
     refine offg (wgt hr (c := true) rfl) hr ?_; clear hr a; intro a hr
     refine offg (wgt hr (c := true) rfl) hr ?_; clear hr a; intro a hr
     refine offg (wgt hr (c := true) rfl) hr ?_; clear hr a; intro a hr
     refine offg (wgt hr (c := true) rfl) hr ?_; clear hr a; intro a hr
     refine offg (wgt hr (c := true) rfl) hr ?_; clear hr a; intro a hr
     refine ov hr (vB true) (by kernel_rfl) ?_; clear hr a; intro a hr
     refine ln ?_
     refine cond_tt hr (b := true) rfl ?_
     refine sr ?_
     refine ov hr (vB false) (by kernel_rfl) ?_; clear hr a; intro a hr
     refine ln ?_
     refine wp_ret ?_
     refine then_ret ?_
     refine end_ret1 (v := vB false) rfl hr (by kernel_rfl) ?_
     replace h : Fit z (sepL (L)) _ := h.sel 4 [] (by kernel_rfl) (by kernel_rfl)
     replace H := ej1 H; subst H
     exact ⟨rfl, h⟩
    ·
     replace H := ifF c57 H
     refine offg (wgt hr (bne_iff_ne.mpr c57)) hr ?_; clear hr a; intro a hr
     refine offg (wgt hr (bne_iff_ne.mpr c57)) hr ?_; clear hr a; intro a hr
     refine opv (wn rfl) hr (vB true) (rp_t (b := (r14 != (0 : Int))) rfl (by kernel_rfl) (bne_iff_ne.mpr c57) (by kernel_rfl)) ?_; clear hr a; intro a hr
     refine ov hr (vB true) (by kernel_rfl) ?_; clear hr a; intro a hr
     refine offg (wgt hr (c := true) rfl) hr ?_; clear hr a; intro a hr
     refine offg (wgt hr (c := true) rfl) hr ?_; clear hr a; intro a hr
     refine offg (wgt hr (c := true) rfl) hr ?_; clear hr a; intro a hr
     refine offg (wgt hr (c := true) rfl) hr ?_; clear hr a; intro a hr
     refine offg (wgt hr (c := true) rfl) hr ?_; clear hr a; intro a hr
     refine offg (wgt hr (c := true) rfl) hr ?_; clear hr a; intro a hr
     refine ov hr (vB true) (by kernel_rfl) ?_; clear hr a; intro a hr
     refine ln ?_
     refine cond_tt hr (b := true) rfl ?_
     refine sr ?_
     refine ov hr (vB false) (by kernel_rfl) ?_; clear hr a; intro a hr
     refine ln ?_
     refine wp_ret ?_
     refine then_ret ?_
     refine end_ret1 (v := vB false) rfl hr (by kernel_rfl) ?_
     replace h : Fit z (sepL (L)) _ := h.sel 4 [] (by kernel_rfl) (by kernel_rfl)
     replace H := ej1 H; subst H
     exact ⟨rfl, h⟩
   ·
    replace H := ifF c56 H
    refine offg (wgt hr (bne_iff_ne.mpr c56)) hr ?_; clear hr a; intro a hr
    refine offg (wgt hr (bne_iff_ne.mpr c56)) hr ?_; clear hr a; intro a hr
    refine opv (wn rfl) hr (vB true) (rp_t (b := (r6 != (0 : Int))) rfl (by kernel_rfl) (bne_iff_ne.mpr c56) (by kernel_rfl)) ?_; clear hr a; intro a hr
    refine ov hr (vB true) (by kernel_rfl) ?_; clear hr a; intro a hr
    refine offg (wgt hr (c := true) rfl) hr ?_; clear hr a; intro a hr
    refine offg (wgt hr (c := true) rfl) hr ?_; clear hr a; intro a hr
    refine ovs [41, 42] [vB true, vB true] hr ⟨rfl, rfl⟩ (by kernel_rfl) ?_; clear hr a; intro a hr
    refine offg (wgt hr (c := true) rfl) hr ?_; clear hr a; intro a hr
    refine offg (wgt hr (c := true) rfl) hr ?_; clear hr a; intro a hr
    refine offg (wgt hr (c := true) rfl) hr ?_; clear hr a; intro a hr
    refine offg (wgt hr (c := true) rfl) hr ?_; clear hr a; intro a hr
    refine offg (wgt hr (c := true) rfl) hr ?_; clear hr a; intro a hr
    refine offg (wgt hr (c := true) rfl) hr ?_; clear hr a; intro a hr
    refine ov hr (vB true) (by kernel_rfl) ?_; clear hr a; intro a hr
    refine ln ?_
    refine cond_tt hr (b := true) rfl ?_
    refine sr ?_
    refine ov hr (vB false) (by kernel_rfl) ?_; clear hr a; intro a hr
    refine ln ?_
    refine wp_ret ?_
    refine then_ret ?_
    refine end_ret1 (v := vB false) rfl hr (by kernel_rfl) ?_
    replace h : Fit z (sepL (L)) _ := h.sel 4 [] (by kernel_rfl) (by kernel_rfl)
    replace H := ej1 H; subst H
    exact ⟨rfl, h⟩
 ·
  replace H := ifF c3 H
  refine cond_ff hr (b := (decide (((p1.length : Nat) : Int) > (4096 : Int)))) (decide_eq_false c3) ?_
  refine wp_skip ?_
  refine then_normal ?_
  refine sr ?_
  replace H := bd2 H; obtain ⟨r58, r59, e60, H⟩ := H
  refine ovs [22, 23] [vI r1, .slice va1 p1.length vc1] hr ⟨rfl, rfl⟩ (by kernel_rfl) ?_; clear hr a; intro a hr
  have hc := cells_Play_ok (va1 := va1) (vc1 := vc1) (hv1 := (RdRow.up 0 hv1)) (H := e60) (h := h)
  refine op_call (wn rfl) rfl rfl hr (f := 38) (args := #[vI r1, .slice va1 p1.length vc1]) (by kernel_rfl) hc ?_; clear hc h
  rintro _ w ⟨car61, ccr62, car63, car64, rfl, h⟩; refine ⟨_, rfl, ?_⟩
  clear hr a; intro a hr
  refine ovs [21, 25, 26] [.tuple #[.agg #[.slice car61 r58.Effects.length ccr62, .slice car63 r58.Cells.length r58.Cells.length, .slice car64 r58.Log.length r58.Log.length], vI r59], .agg #[.slice car61 r58.Effects.length ccr62, .slice car63 r58.Cells.length r58.Cells.length, .slice car64 r58.Log.length r58.Log.length], vI r59] hr ⟨rfl, rfl⟩ (by kernel_rfl) ?_; clear hr a; intro a hr
  refine op_new (wn rfl) rfl rfl hr h (vf := fun b => .pointer (some ⟨b, 0, none⟩)) (cs := #[.slice none 0 0, .slice none 0 0, .slice none 0 0]) (T := 70) (by kernel_rfl) ?_; clear h hr a; intro b65 w a h hr
  refine op_stores (wn rfl) rfl hr rfl (by kernel_rfl) (by kernel_rfl) (vs := [.slice car61 r58.Effects.length ccr62, .slice car63 r58.Cells.length r58.Cells.length, .slice car64 r58.Log.length r58.Log.length]) rfl rfl (by kernel_rfl) h (i := 0) (cs' := #[.slice car61 r58.Effects.length ccr62, .slice car63 r58.Cells.length r58.Cells.length, .slice car64 r58.Log.length r58.Log.length]) rfl ?_; clear h; intro w h
  refine ov hr (vI r59) (by kernel_rfl) ?_; clear hr a; intro a hr
  refine wpList_nil ?_
  replace h : Fit z (sepL (ob70 b65 r58 car61 ccr62 car63 r58.Cells.length car64 r58.Log.length :: ro39 car61 ccr62 r58.Effects :: ro2 car63 r58.Cells.length r58.Cells :: ro90 car64 r58.Log.length r58.Log :: L)) _ := h
  refine then_normal ?_
  refine sr ?_
  replace H := bd2 H; obtain ⟨r66, r67, e68, H⟩ := H
  refine ov hr (vI r1) (by kernel_rfl) ?_; clear hr a; intro a hr
  cases r66 with
  | some S69 =>
   have hc := cells_NewShared_ok0 (H := e68) (h := h)
   refine op_call (wn rfl) rfl rfl hr (f := 28) (args := #[vI r1]) (by kernel_rfl) hc ?_; clear hc h
   rintro _ w ⟨Bn70, car71, ccr72, rfl, h⟩; refine ⟨_, rfl, ?_⟩
   clear hr a; intro a hr
   refine ovs [27, 30, 31, 8, 9] [.tuple #[pA Bn70 0, vI r67], pA Bn70 0, vI r67, pA Bn70 0, vI r67] hr ⟨rfl, rfl⟩ (by kernel_rfl) ?_; clear hr a; intro a hr
   refine ln ?_
   replace H := jd0 H; obtain ⟨o74, H, hK73⟩ := H
   refine cut_rule (β := Unit) (fun _ a w => .inl () = o74 ∧ ∃ j, Rep 97 (lk [(5, .slice va1 p1.length vc1), (6, pA b65 0), (8, pA Bn70 0)] j) a ∧ Fit z (sepL (ob70 b65 r58 car61 ccr62 car63 r58.Cells.length car64 r58.Log.length :: ro39 car61 ccr62 r58.Effects :: ro2 car63 r58.Cells.length r58.Cells :: ro90 car64 r58.Log.length r58.Log :: ob110 Bn70 S69 car71 ccr72 :: ro107 car71 ccr72 S69.cell :: L)) w) ?_ ?_
   ·
    refine sr ?_
    refine ovs [32, 33, 34] [vI r59, vB (r59 != (0 : Int)), vB (r59 != (0 : Int))] hr ⟨rfl, rfl⟩ (by kernel_rfl) ?_; clear hr a; intro a hr
    by_cases c75 : r59 = (0 : Int)
    ·
     replace H := ifT c75 H
     refine opv (wgt hr (bne_eq_false_iff_eq.mpr c75)) hr (vI r67) (by kernel_rfl) ?_; clear hr a; intro a hr
     refine opv (wgt hr (bne_eq_false_iff_eq.mpr c75)) hr (vB (r67 != (0 : Int))) (by kernel_rfl) ?_; clear hr a; intro a hr
     refine opv (wn rfl) hr (vB (r67 != (0 : Int))) (rp_f (b := (r59 != (0 : Int))) rfl (by kernel_rfl) (bne_eq_false_iff_eq.mpr c75) (by kernel_rfl)) ?_; clear hr a; intro a hr
     refine ov hr (vB (r67 != (0 : Int))) (by kernel_rfl) ?_; clear hr a; intro a hr
     by_cases c76 : r67 = (0 : Int)
     ·
      replace H := ifT c76 H
      refine opv (wgt hr (bne_eq_false_iff_eq.mpr c76)) hr (pA Bn70 0) (by kernel_rfl) ?_; clear hr a; intro a hr
      refine opv (wgt hr (bne_eq_false_iff_eq.mpr c76)) hr (vB false) (by kernel_rfl) ?_; clear hr a; intro a hr
      refine opv (wn rfl) hr (vB false) (rp_f (b := (r67 != (0 : Int))) rfl (by kernel_rfl) (bne_eq_false_iff_eq.mpr c76) (by kernel_rfl)) ?_; clear hr a; intro a hr
      refine ov hr (vB false) (by kernel_rfl) ?_; clear hr a; intro a hr
      refine opv (wgt hr (c := false) rfl) hr (pA b65 0) (by kernel_rfl) ?_; clear hr a; intro a hr
      refine ld (wgt hr (c := false) rfl) hr (.slice car61 r58.Effects.length ccr62) ((h.pick 2).cell 0 rfl) ?_; clear hr a; intro a hr
      refine opv (wgt hr (c := false) rfl) hr (vI ((r58.Effects.length : Nat) : Int)) (by kernel_rfl) ?_; clear hr a; intro a hr
      refine opv (wgt hr (c := false) rfl) hr (.slice va1 p1.length vc1) (by kernel_rfl) ?_; clear hr a; intro a hr
      refine opv (wgt hr (c := false) rfl) hr (vI ((p1.length : Nat) : Int)) (by kernel_rfl) ?_; clear hr a; intro a hr
      refine opv (wgt hr (c := false) rfl) hr (vB (((r58.Effects.length : Nat) : Int) != ((p1.length : Nat) : Int))) (by kernel_rfl) ?_; clear hr a; intro a hr
      refine ov hr (vB (((r58.Effects.length : Nat) : Int) != ((p1.length : Nat) : Int))) (by kernel_rfl) ?_; clear hr a; intro a hr
      refine ln ?_
      by_cases c77 : ((r58.Effects.length : Nat) : Int) = ((p1.length : Nat) : Int)
      ·
       replace H := ifT c77 H
       refine cond_ff hr (b := (((r58.Effects.length : Nat) : Int) != ((p1.length : Nat) : Int))) (bne_eq_false_iff_eq.mpr c77) ?_
       refine wp_skip ?_
       refine then_normal ?_
       replace hr := hr.fold2 [(5, .slice va1 p1.length vc1), (6, pA b65 0), (8, pA Bn70 0)] (by kernel_rfl); obtain ⟨j, hr⟩ := hr
       replace h : Fit z (sepL (ob70 b65 r58 car61 ccr62 car63 r58.Cells.length car64 r58.Log.length :: ro39 car61 ccr62 r58.Effects :: ro2 car63 r58.Cells.length r58.Cells :: ro90 car64 r58.Log.length r58.Log :: ob110 Bn70 S69 car71 ccr72 :: ro107 car71 ccr72 S69.cell :: L)) _ := h.sel 6 [2, 3, 4, 5, 0, 1] (by kernel_rfl) (by kernel_rfl)
       exact ⟨(), sinj H, j, hr, h⟩
      ·
       replace H := ifF c77 H
       refine cond_tt hr (b := (((r58.Effects.length : Nat) : Int) != ((p1.length : Nat) : Int))) (bne_iff_ne.mpr c77) ?_
       refine sr ?_
       refine ov hr (vB false) (by kernel_rfl) ?_; clear hr a; intro a hr
       refine ln ?_
       refine wp_ret ?_
       refine then_ret ?_
       refine end_ret1 (v := vB false) rfl hr (by kernel_rfl) ?_
       replace H := jx0 H hK73
       replace h : Fit z (sepL (L)) _ := h.sel 6 [] (by kernel_rfl) (by kernel_rfl)
       replace H := ej1 H; subst H
       exact ⟨rfl, h⟩
     ·
      replace H := ifF c76 H
      refine offg (wgt hr (bne_iff_ne.mpr c76)) hr ?_; clear hr a; intro a hr
      refine offg (wgt hr (bne_iff_ne.mpr c76)) hr ?_; clear hr a; intro a hr
      refine opv (wn rfl) hr (vB true) (rp_t (b := (r67 != (0 : Int))) rfl (by kernel_rfl) (bne_iff_ne.mpr c76) (by kernel_rfl)) ?_; clear hr a; intro a hr
      refine ov hr (vB true) (by kernel_rfl) ?_; clear hr a; intro a hr
      refine offg (wgt hr (c := true) rfl) hr ?_; clear hr a; intro a hr
      refine offg (wgt hr (c := true) rfl) hr ?_; clear hr a; intro a hr
      refine offg (wgt hr (c := true) rfl) hr ?_; clear hr a; intro a hr
      refine offg (wgt hr (c := true) rfl) hr ?_; clear hr a; intro a hr
      refine offg (wgt hr (c := true) rfl) hr ?_; clear hr a; intro a hr
      refine offg (wgt hr (c := true) rfl) hr ?_; clear hr a; intro a hr
      refine ov hr (vB true) (by kernel_rfl) ?_; clear hr a; intro a hr
      refine ln ?_
      refine cond_tt hr (b := true) rfl ?_
      refine sr ?_
      refine ov hr (vB false) (by kernel_rfl) ?_; clear hr a; intro a hr
      refine ln ?_
      refine wp_ret ?_
      refine then_ret ?_
      refine end_ret1 (v := vB false) rfl hr (by kernel_rfl) ?_
      replace H := jx0 H hK73
      replace h : Fit z (sepL (L)) _ := h.sel 6 [] (by kernel_rfl) (by kernel_rfl)
      replace H := ej1 H; subst H
      exact ⟨rfl, h⟩
    ·
     replace H := ifF c75 H
     refine offg (wgt hr (bne_iff_ne.mpr c75)) hr ?_; clear hr a; intro a hr
     refine offg (wgt hr (bne_iff_ne.mpr c75)) hr ?_; clear hr a; intro a hr
     refine opv (wn rfl) hr (vB true) (rp_t (b := (r59 != (0 : Int))) rfl (by kernel_rfl) (bne_iff_ne.mpr c75) (by kernel_rfl)) ?_; clear hr a; intro a hr
     refine ov hr (vB true) (by kernel_rfl) ?_; clear hr a; intro a hr
     refine offg (wgt hr (c := true) rfl) hr ?_; clear hr a; intro a hr
     refine offg (wgt hr (c := true) rfl) hr ?_; clear hr a; intro a hr
     refine ovs [41, 42] [vB true, vB true] hr ⟨rfl, rfl⟩ (by kernel_rfl) ?_; clear hr a; intro a hr
     refine offg (wgt hr (c := true) rfl) hr ?_; clear hr a; intro a hr
     refine offg (wgt hr (c := true) rfl) hr ?_; clear hr a; intro a hr
     refine offg (wgt hr (c := true) rfl) hr ?_; clear hr a; intro a hr
     refine offg (wgt hr (c := true) rfl) hr ?_; clear hr a; intro a hr
     refine offg (wgt hr (c := true) rfl) hr ?_; clear hr a; intro a hr
     refine offg (wgt hr (c := true) rfl) hr ?_; clear hr a; intro a hr
     refine ov hr (vB true) (by kernel_rfl) ?_; clear hr a; intro a hr
     refine ln ?_
     refine cond_tt hr (b := true) rfl ?_
     refine sr ?_
     refine ov hr (vB false) (by kernel_rfl) ?_; clear hr a; intro a hr
     refine ln ?_
     refine wp_ret ?_
     refine then_ret ?_
     refine end_ret1 (v := vB false) rfl hr (by kernel_rfl) ?_
     replace H := jx0 H hK73
     replace h : Fit z (sepL (L)) _ := h.sel 6 [] (by kernel_rfl) (by kernel_rfl)
     replace H := ej1 H; subst H
     exact ⟨rfl, h⟩
   clear h hr a; rintro _ a w ⟨rfl, j, hr, h⟩
   replace H := jk0 hK73
   replace H := jd1 H; obtain ⟨o82, H, hK81⟩ := H
   refine cut_rule (β := Unit) (fun _ a w => ∃ ca79 : Option Addr, ∃ cc80 : Nat, ∃ S78 : T_cells_Shared, .inl S78 = o82 ∧ ∃ j, Rep 97 (lk [(6, pA b65 0), (8, pA Bn70 0)] j) a ∧ Fit z (sepL (ob70 b65 r58 car61 ccr62 car63 r58.Cells.length car64 r58.Log.length :: ro39 car61 ccr62 r58.Effects :: ro2 car63 r58.Cells.length r58.Cells :: ro90 car64 r58.Log.length r58.Log :: ob110 Bn70 S78 ca79 cc80 :: ro107 ca79 cc80 S78.cell :: L)) w) ?_ ?_
   ·
    refine sr ?_
    refine ov hr (vI 0) (by kernel_rfl) ?_; clear hr a; intro a hr
    refine ln ?_
    refine wp_block ?_
    replace hr := hr.fold2 [(5, .slice va1 p1.length vc1), (6, pA b65 0), (8, pA Bn70 0), (10, vI 0)] (by kernel_rfl); obtain ⟨j, hr⟩ := hr
    refine loop_rule (β := Nat) id (fun m a w => ∃ ca84 : Option Addr, ∃ cc85 : Nat, ∃ S83 : T_cells_Shared, ∃ g86 : Int, (plunderlaw2_CellsAlike_l2 K p1 r58 m S83 g86) = some o82 ∧ ∃ j, Rep 97 (lk [(5, .slice va1 p1.length vc1), (6, pA b65 0), (8, pA Bn70 0), (10, vI g86)] j) a ∧ Fit z (sepL (ob70 b65 r58 car61 ccr62 car63 r58.Cells.length car64 r58.Log.length :: ro39 car61 ccr62 r58.Effects :: ro2 car63 r58.Cells.length r58.Cells :: ro90 car64 r58.Log.length r58.Log :: ob110 Bn70 S83 ca84 cc85 :: ro107 ca84 cc85 S83.cell :: L)) w) K ⟨car71, ccr72, S69, 0, H, j, hr, h⟩ ?_
    clear h hr a H; rintro k2 a w ⟨ca84, cc85, S83, g86, H, j, hr, h⟩
    cases k2 with
    | zero => exact absurd H (by simp [plunderlaw2_CellsAlike_l2])
    | succ k2 =>
     rw [plunderlaw2_CellsAlike_l2] at H
     refine wp_seq ?_
     refine sr ?_
     refine ovs [50, 51, 52, 53] [vI g86, .slice va1 p1.length vc1, vI ((p1.length : Nat) : Int), vB (decide (g86 < ((p1.length : Nat) : Int)))] hr ⟨rfl, rfl⟩ (by kernel_rfl) ?_; clear hr a; intro a hr
     refine ln ?_
     by_cases c87 : g86 < ((p1.length : Nat) : Int)
     ·
      replace H := ifT c87 H
      refine cond_tt hr (b := (decide (g86 < ((p1.length : Nat) : Int)))) (decide_eq_true c87) ?_
      refine wp_skip ?_
      refine then_normal ?_
      refine wp_seq ?_
      refine wp_block ?_
      refine sr ?_
      replace H := gd H; obtain ⟨c88, H⟩ := H
      refine ovs [56, 57] [.slice va1 p1.length vc1, vI g86] hr ⟨rfl, rfl⟩ (by kernel_rfl) ?_; clear hr a; intro a hr
      refine opv (wn rfl) hr (pA (blk va1) (offs va1 + g86.toNat * 5)) (ri_rd (k := .i64) (E := 57) (cc := vc1) rfl (by kernel_rfl) (by kernel_rfl) rfl (by kernel_rfl) (by kernel_rfl) hv1 c88) ?_; clear hr a; intro a hr
      refine ldm (wn rfl) hr (ag_T_api_Act (at_ p1 g86.toNat)) (cs := cl_T_api_Act (at_ p1 g86.toNat)) ⟨hv1.cell c88 (h.dn 6) 0 rfl, hv1.cell c88 (h.dn 6) 1 rfl, hv1.cell c88 (h.dn 6) 2 rfl, hv1.cell c88 (h.dn 6) 3 rfl, hv1.cell c88 (h.dn 6) 4 rfl, trivial⟩ ?_; clear hr a; intro a hr
      refine op_new (wn rfl) rfl rfl hr h (vf := fun b => .pointer (some ⟨b, 0, none⟩)) (cs := #[vI 0, vI 0, vI 0, vI 0, vI 0]) (T := 57) (by kernel_rfl) ?_; clear h hr a; intro b89 w a h hr
      refine op_stores (wn rfl) rfl hr rfl (by kernel_rfl) (by kernel_rfl) (vs := cl_T_api_Act (at_ p1 g86.toNat)) rfl rfl (by kernel_rfl) h (i := 0) (cs' := ca_T_api_Act (at_ p1 g86.toNat)) rfl ?_; clear h; intro w h
      refine wpList_nil ?_
      replace h : Fit z (sepL (ob57 b89 (at_ p1 g86.toNat) :: ob70 b65 r58 car61 ccr62 car63 r58.Cells.length car64 r58.Log.length :: ro39 car61 ccr62 r58.Effects :: ro2 car63 r58.Cells.length r58.Cells :: ro90 car64 r58.Log.length r58.Log :: ob110 Bn70 S83 ca84 cc85 :: ro107 ca84 cc85 S83.cell :: L)) _ := h
      refine then_normal ?_
      refine wp_seq ?_
      refine sr ?_
      refine ov hr (pA b89 1) (by kernel_rfl) ?_; clear hr a; intro a hr
      refine ld (wn rfl) hr (vI ((at_ p1 g86.toNat).Kind)) (h.cell 1 rfl) ?_; clear hr a; intro a hr
      refine ovs [62, 63] [vB (decide (((at_ p1 g86.toNat).Kind) < (0 : Int))), vB (decide (((at_ p1 g86.toNat).Kind) < (0 : Int)))] hr ⟨rfl, rfl⟩ (by kernel_rfl) ?_; clear hr a; intro a hr
      by_cases c90 : ((at_ p1 g86.toNat).Kind) < (0 : Int)
      ·
       replace H := ifT c90 H
       refine offg (wgt hr (decide_eq_true c90)) hr ?_; clear hr a; intro a hr
       refine offg (wgt hr (decide_eq_true c90)) hr ?_; clear hr a; intro a hr
       refine offg (wgt hr (decide_eq_true c90)) hr ?_; clear hr a; intro a hr
       refine opv (wn rfl) hr (vB true) (rp_t (b := (decide (((at_ p1 g86.toNat).Kind) < (0 : Int)))) rfl (by kernel_rfl) (decide_eq_true c90) (by kernel_rfl)) ?_; clear hr a; intro a hr
       refine ln ?_
       refine cond_tt hr (b := true) rfl ?_
       refine wp_seq ?_
       refine sr ?_
       refine ov hr (pA b65 0) (by kernel_rfl) ?_; clear hr a; intro a hr
       refine ld (wn rfl) hr (.slice car61 r58.Effects.length ccr62) ((h.pick 1).cell 0 rfl) ?_; clear hr a; intro a hr
       replace H := gd H; obtain ⟨c91, H⟩ := H
       refine ov hr (vI g86) (by kernel_rfl) ?_; clear hr a; intro a hr
       refine opv (wn rfl) hr (pA (blk car61) (g86.toNat * 3)) (ri_row (k := .i64) (E := 39) rfl (by kernel_rfl) (by kernel_rfl) (by kernel_rfl) (by kernel_rfl) (h.pick 2) c91) ?_; clear hr a; intro a hr
       refine ov hr (pA (blk car61) (g86.toNat * 3 + 2)) (by kernel_rfl) ?_; clear hr a; intro a hr
       refine ld (wn rfl) hr (vI ((at_ r58.Effects g86.toNat).Err)) ((h.pick 2).row_cell enc_T_api_Effect_ok (f := 2) (at_ok c91) rfl) ?_; clear hr a; intro a hr
       refine ov hr (vB (((at_ r58.Effects g86.toNat).Err) == (0 : Int))) (by kernel_rfl) ?_; clear hr a; intro a hr
       refine ln ?_
       by_cases c92 : ((at_ r58.Effects g86.toNat).Err) = (0 : Int)
       ·
        replace H := ifT c92 H
        refine cond_tt hr (b := (((at_ r58.Effects g86.toNat).Err) == (0 : Int))) (beq_iff_eq.mpr c92) ?_
        refine sr ?_
        refine ov hr (vB false) (by kernel_rfl) ?_; clear hr a; intro a hr
        refine ln ?_
        refine wp_ret ?_
        refine then_ret ?_
        refine then_ret ?_
        refine blk_ret ?_
        refine then_ret ?_
        refine then_ret ?_
        refine blk_ret ?_
        refine then_ret ?_
        refine end_ret1 (v := vB false) rfl hr (by kernel_rfl) ?_
        replace H := jx1 H hK81
        replace h : Fit z (sepL (L)) _ := h.sel 7 [] (by kernel_rfl) (by kernel_rfl)
        replace H := ej1 H; subst H
        exact ⟨rfl, h⟩
       ·
        replace H := ifF c92 H
        refine cond_ff hr (b := (((at_ r58.Effects g86.toNat).Err) == (0 : Int))) (beq_eq_false_iff_ne.mpr c92) ?_
        refine wp_skip ?_
        refine then_normal ?_
        refine wp_exit ?_
        refine then_exit ?_
        refine blk_here ?_
        refine then_normal ?_
        refine wp_region_lit ?_
        refine ovs [54, 55, 10] [vI g86, vI (wi (g86 + (1 : Int))), vI (wi (g86 + (1 : Int)))] hr ⟨rfl, rfl⟩ (by kernel_rfl) ?_; clear hr a; intro a hr
        refine ln ?_
        replace hr := hr.fold2 [(5, .slice va1 p1.length vc1), (6, pA b65 0), (8, pA Bn70 0), (10, vI (wi (g86 + (1 : Int))))] (by kernel_rfl); obtain ⟨j, hr⟩ := hr
        replace h : Fit z (sepL (ob70 b65 r58 car61 ccr62 car63 r58.Cells.length car64 r58.Log.length :: ro39 car61 ccr62 r58.Effects :: ro2 car63 r58.Cells.length r58.Cells :: ro90 car64 r58.Log.length r58.Log :: ob110 Bn70 S83 ca84 cc85 :: ro107 ca84 cc85 S83.cell :: L)) _ := h.sel 7 [1, 2, 3, 4, 5, 6] (by kernel_rfl) (by kernel_rfl)
        exact ⟨_, ⟨ca84, cc85, S83, (wi (g86 + (1 : Int))), H, j, hr, h⟩, Nat.lt_succ_self _⟩
      ·
       replace H := ifF c90 H
       refine opv (wgt hr (decide_eq_false c90)) hr (pA b89 1) (by kernel_rfl) ?_; clear hr a; intro a hr
       refine ld (wgt hr (decide_eq_false c90)) hr (vI ((at_ p1 g86.toNat).Kind)) (h.cell 1 rfl) ?_; clear hr a; intro a hr
       refine opv (wgt hr (decide_eq_false c90)) hr (vB (decide (((at_ p1 g86.toNat).Kind) > (4 : Int)))) (by kernel_rfl) ?_; clear hr a; intro a hr
       refine opv (wn rfl) hr (vB (decide (((at_ p1 g86.toNat).Kind) > (4 : Int)))) (rp_f (b := (decide (((at_ p1 g86.toNat).Kind) < (0 : Int)))) rfl (by kernel_rfl) (decide_eq_false c90) (by kernel_rfl)) ?_; clear hr a; intro a hr
       refine ln ?_
       by_cases c93 : ((at_ p1 g86.toNat).Kind) > (4 : Int)
       ·
        replace H := ifT c93 H
        refine cond_tt hr (b := (decide (((at_ p1 g86.toNat).Kind) > (4 : Int)))) (decide_eq_true c93) ?_
        refine wp_seq ?_
        refine sr ?_
        refine ov hr (pA b65 0) (by kernel_rfl) ?_; clear hr a; intro a hr
        refine ld (wn rfl) hr (.slice car61 r58.Effects.length ccr62) ((h.pick 1).cell 0 rfl) ?_; clear hr a; intro a hr
        replace H := gd H; obtain ⟨c94, H⟩ := H
        refine ov hr (vI g86) (by kernel_rfl) ?_; clear hr a; intro a hr
        refine opv (wn rfl) hr (pA (blk car61) (g86.toNat * 3)) (ri_row (k := .i64) (E := 39) rfl (by kernel_rfl) (by kernel_rfl) (by kernel_rfl) (by kernel_rfl) (h.pick 2) c94) ?_; clear hr a; intro a hr
        refine ov hr (pA (blk car61) (g86.toNat * 3 + 2)) (by kernel_rfl) ?_; clear hr a; intro a hr
        refine ld (wn rfl) hr (vI ((at_ r58.Effects g86.toNat).Err)) ((h.pick 2).row_cell enc_T_api_Effect_ok (f := 2) (at_ok c94) rfl) ?_; clear hr a; intro a hr
        refine ov hr (vB (((at_ r58.Effects g86.toNat).Err) == (0 : Int))) (by kernel_rfl) ?_; clear hr a; intro a hr
        refine ln ?_
        by_cases c95 : ((at_ r58.Effects g86.toNat).Err) = (0 : Int)
        ·
         replace H := ifT c95 H
         refine cond_tt hr (b := (((at_ r58.Effects g86.toNat).Err) == (0 : Int))) (beq_iff_eq.mpr c95) ?_
         refine sr ?_
         refine ov hr (vB false) (by kernel_rfl) ?_; clear hr a; intro a hr
         refine ln ?_
         refine wp_ret ?_
         refine then_ret ?_
         refine then_ret ?_
         refine blk_ret ?_
         refine then_ret ?_
         refine then_ret ?_
         refine blk_ret ?_
         refine then_ret ?_
         refine end_ret1 (v := vB false) rfl hr (by kernel_rfl) ?_
         replace H := jx1 H hK81
         replace h : Fit z (sepL (L)) _ := h.sel 7 [] (by kernel_rfl) (by kernel_rfl)
         replace H := ej1 H; subst H
         exact ⟨rfl, h⟩
        ·
         replace H := ifF c95 H
         refine cond_ff hr (b := (((at_ r58.Effects g86.toNat).Err) == (0 : Int))) (beq_eq_false_iff_ne.mpr c95) ?_
         refine wp_skip ?_
         refine then_normal ?_
         refine wp_exit ?_
         refine then_exit ?_
         refine blk_here ?_
         refine then_normal ?_
         refine wp_region_lit ?_
         refine ovs [54, 55, 10] [vI g86, vI (wi (g86 + (1 : Int))), vI (wi (g86 + (1 : Int)))] hr ⟨rfl, rfl⟩ (by kernel_rfl) ?_; clear hr a; intro a hr
         refine ln ?_
         replace hr := hr.fold2 [(5, .slice va1 p1.length vc1), (6, pA b65 0), (8, pA Bn70 0), (10, vI (wi (g86 + (1 : Int))))] (by kernel_rfl); obtain ⟨j, hr⟩ := hr
         replace h : Fit z (sepL (ob70 b65 r58 car61 ccr62 car63 r58.Cells.length car64 r58.Log.length :: ro39 car61 ccr62 r58.Effects :: ro2 car63 r58.Cells.length r58.Cells :: ro90 car64 r58.Log.length r58.Log :: ob110 Bn70 S83 ca84 cc85 :: ro107 ca84 cc85 S83.cell :: L)) _ := h.sel 7 [1, 2, 3, 4, 5, 6] (by kernel_rfl) (by kernel_rfl)
         exact ⟨_, ⟨ca84, cc85, S83, (wi (g86 + (1 : Int))), H, j, hr, h⟩, Nat.lt_succ_self _⟩
       ·
        replace H := ifF c93 H
        refine cond_ff hr (b := (decide (((at_ p1 g86.toNat).Kind) > (4 : Int)))) (decide_eq_false c93) ?_
        refine wp_skip ?_
        refine then_normal ?_
        refine sr ?_
        refine ovs [75, 76] [pA Bn70 0, pA b89 1] hr ⟨rfl, rfl⟩ (by kernel_rfl) ?_; clear hr a; intro a hr
        refine ld (wn rfl) hr (vI ((at_ p1 g86.toNat).Kind)) (h.cell 1 rfl) ?_; clear hr a; intro a hr
        refine ov hr (pA b89 2) (by kernel_rfl) ?_; clear hr a; intro a hr
        refine ld (wn rfl) hr (vI ((at_ p1 g86.toNat).Addr)) (h.cell 2 rfl) ?_; clear hr a; intro a hr
        refine ov hr (pA b89 3) (by kernel_rfl) ?_; clear hr a; intro a hr
        refine ld (wn rfl) hr (vI ((at_ p1 g86.toNat).A)) (h.cell 3 rfl) ?_; clear hr a; intro a hr
        refine ov hr (pA b89 4) (by kernel_rfl) ?_; clear hr a; intro a hr
        refine ld (wn rfl) hr (vI ((at_ p1 g86.toNat).B)) (h.cell 4 rfl) ?_; clear hr a; intro a hr
        replace H := bd2 H; obtain ⟨r96, S97, e98, H⟩ := H
        refine ov hr (.agg #[vI 0, vI ((at_ p1 g86.toNat).Kind), vI ((at_ p1 g86.toNat).Addr), vI ((at_ p1 g86.toNat).A), vI ((at_ p1 g86.toNat).B)]) (by kernel_rfl) ?_; clear hr a; intro a hr
        replace h : Fit z (sepL (ob110 Bn70 S83 ca84 cc85 :: ro107 ca84 cc85 S83.cell :: ob57 b89 (at_ p1 g86.toNat) :: ob70 b65 r58 car61 ccr62 car63 r58.Cells.length car64 r58.Log.length :: ro39 car61 ccr62 r58.Effects :: ro2 car63 r58.Cells.length r58.Cells :: ro90 car64 r58.Log.length r58.Log :: L)) _ := h.sel 7 [5, 6, 0, 1, 2, 3, 4] (by kernel_rfl) (by kernel_rfl)
        have hc := plunderlaw2_shared_ok (H := e98) (h := h)
        refine op_call (wn rfl) rfl rfl hr (f := 29) (args := #[pA Bn70 0, .agg #[vI 0, vI ((at_ p1 g86.toNat).Kind), vI ((at_ p1 g86.toNat).Addr), vI ((at_ p1 g86.toNat).A), vI ((at_ p1 g86.toNat).B)]]) (by kernel_rfl) hc ?_; clear hc h
        rintro _ w ⟨caq99, ccq100, rfl, h⟩; refine ⟨_, rfl, ?_⟩
        clear hr a; intro a hr
        refine op_new (wn rfl) rfl rfl hr h (vf := fun b => .pointer (some ⟨b, 0, none⟩)) (cs := #[vI 0, vB false, vI 0]) (T := 39) (by kernel_rfl) ?_; clear h hr a; intro b101 w a h hr
        refine op_stores (wn rfl) rfl hr rfl (by kernel_rfl) (by kernel_rfl) (vs := cl_T_api_Effect r96) rfl rfl (by kernel_rfl) h (i := 0) (cs' := ca_T_api_Effect r96) rfl ?_; clear h; intro w h
        refine wpList_nil ?_
        replace h : Fit z (sepL (ob39 b101 r96 :: ob110 Bn70 S97 caq99 ccq100 :: ro107 caq99 ccq100 S97.cell :: ob57 b89 (at_ p1 g86.toNat) :: ob70 b65 r58 car61 ccr62 car63 r58.Cells.length car64 r58.Log.length :: ro39 car61 ccr62 r58.Effects :: ro2 car63 r58.Cells.length r58.Cells :: ro90 car64 r58.Log.length r58.Log :: L)) _ := h
        refine then_normal ?_
        refine wp_seq ?_
        replace H := gd H; obtain ⟨c102, H⟩ := H
        refine reg_E (fun w => heldC w b101 0 (cl_T_api_Effect r96) ∧ heldC w b65 0 ([.slice car61 r58.Effects.length ccr62]) ∧ heldC w (blk car61) (g86.toNat * 3) (cl_T_api_Effect (at_ r58.Effects g86.toNat)) ∧ True) [1, 4] h (by kernel_rfl) ?_; intro w h
        change wpAnyE _ _ _ _ _ _ 7 (Array.replicate 7 false) a w
        have hgo : ∀ w w', CellsGo w w' → (heldC w b101 0 (cl_T_api_Effect r96) ∧ heldC w b65 0 ([.slice car61 r58.Effects.length ccr62]) ∧ heldC w (blk car61) (g86.toNat * 3) (cl_T_api_Effect (at_ r58.Effects g86.toNat)) ∧ True) → heldC w' b101 0 (cl_T_api_Effect r96) ∧ heldC w' b65 0 ([.slice car61 r58.Effects.length ccr62]) ∧ heldC w' (blk car61) (g86.toNat * 3) (cl_T_api_Effect (at_ r58.Effects g86.toNat)) ∧ True := fun w w' g hD => ⟨heldC_go _ _ _ _ _ g hD.1, heldC_go _ _ _ _ _ g hD.2.1, heldC_go _ _ _ _ _ g hD.2.2.1, trivial⟩
        refine evD hgo ⟨(h.held 0 rfl), ⟨(h.pick 4).cell 0 rfl, trivial⟩, ⟨(h.pick 5).row_cell enc_T_api_Effect_ok (f := 0) (at_ok c102) rfl, (h.pick 5).row_cell enc_T_api_Effect_ok (f := 1) (at_ok c102) rfl, (h.pick 5).row_cell enc_T_api_Effect_ok (f := 2) (at_ok c102) rfl, trivial⟩, trivial⟩ 6 1 rfl (by kernel_rfl) (wn rfl) hr (pA b65 0) (fun w => by kernel_rfl) ?_; clear hr a; intro a hr
        refine ev 5 3 rfl (by kernel_rfl) (wn rfl) hr (vI g86) (fun w => by kernel_rfl) ?_; clear hr a; intro a hr
        refine el [1, 4] (b := b101) (off := 0) (cs := cl_T_api_Effect r96) (fun _ hk => ⟨hk, fun w hD => hD.1⟩) 4 0 rfl (by kernel_rfl) (wn rfl) hr (ag_T_api_Effect r96) (h.held 0 rfl) (fun w hc => rlm (cs := cl_T_api_Effect r96) rfl (by kernel_rfl) (by kernel_rfl) (by kernel_rfl) hc) ?_; clear hr a; intro a hr
        refine el [1, 4] (b := b65) (off := 0) (cs := [.slice car61 r58.Effects.length ccr62]) (fun _ hk => ⟨hk, fun w hD => hD.2.1⟩) 3 2 rfl (by kernel_rfl) (wn rfl) hr (.slice car61 r58.Effects.length ccr62) ⟨(h.pick 4).cell 0 rfl, trivial⟩ (fun w hc => rl rfl (by kernel_rfl) (by kernel_rfl) hc.1) ?_; clear hr a; intro a hr
        refine evD hgo ⟨(h.held 0 rfl), ⟨(h.pick 4).cell 0 rfl, trivial⟩, ⟨(h.pick 5).row_cell enc_T_api_Effect_ok (f := 0) (at_ok c102) rfl, (h.pick 5).row_cell enc_T_api_Effect_ok (f := 1) (at_ok c102) rfl, (h.pick 5).row_cell enc_T_api_Effect_ok (f := 2) (at_ok c102) rfl, trivial⟩, trivial⟩ 2 4 rfl (by kernel_rfl) (wn rfl) hr (pA (blk car61) (g86.toNat * 3)) (fun w => ri_row (k := .i64) (E := 39) rfl (by kernel_rfl) (by kernel_rfl) (by kernel_rfl) (by kernel_rfl) (h.pick 5) c102) ?_; clear hr a; intro a hr
        refine el [1, 4] (b := blk car61) (off := g86.toNat * 3) (cs := cl_T_api_Effect (at_ r58.Effects g86.toNat)) (fun _ hk => ⟨hk, fun w hD => hD.2.2.1⟩) 1 5 rfl (by kernel_rfl) (wn rfl) hr (ag_T_api_Effect (at_ r58.Effects g86.toNat)) ⟨(h.pick 5).row_cell enc_T_api_Effect_ok (f := 0) (at_ok c102) rfl, (h.pick 5).row_cell enc_T_api_Effect_ok (f := 1) (at_ok c102) rfl, (h.pick 5).row_cell enc_T_api_Effect_ok (f := 2) (at_ok c102) rfl, trivial⟩ (fun w hc => rlm (cs := cl_T_api_Effect (at_ r58.Effects g86.toNat)) rfl (by kernel_rfl) (by kernel_rfl) (by kernel_rfl) hc) ?_; clear hr a; intro a hr
        refine ev 0 6 rfl (by kernel_rfl) (wn rfl) hr (vB (!(decide (r96 = at_ r58.Effects g86.toNat)))) (fun w => rb (rne rfl (by kernel_rfl) (by kernel_rfl) (by kernel_rfl) (by kernel_rfl) (by kernel_rfl) (by kernel_rfl)) (congrArg (!·) (eq_T_api_Effect r96 (at_ r58.Effects g86.toNat)))) ?_; clear hr a; intro a hr
        refine e_end (by kernel_rfl) ?_
        refine then_normal ?_
        by_cases c103 : r96 = at_ r58.Effects g86.toNat
        ·
         replace H := ifT c103 H
         refine cond_ff hr (b := (!(decide (r96 = at_ r58.Effects g86.toNat)))) (by rw [show (decide (r96 = at_ r58.Effects g86.toNat)) = true from (decide_eq_true c103)]; rfl) ?_
         refine wp_skip ?_
         refine blk_normal ?_
         refine then_normal ?_
         refine wp_region_lit ?_
         refine ovs [54, 55, 10] [vI g86, vI (wi (g86 + (1 : Int))), vI (wi (g86 + (1 : Int)))] hr ⟨rfl, rfl⟩ (by kernel_rfl) ?_; clear hr a; intro a hr
         refine ln ?_
         replace hr := hr.fold2 [(5, .slice va1 p1.length vc1), (6, pA b65 0), (8, pA Bn70 0), (10, vI (wi (g86 + (1 : Int))))] (by kernel_rfl); obtain ⟨j, hr⟩ := hr
         replace h : Fit z (sepL (ob70 b65 r58 car61 ccr62 car63 r58.Cells.length car64 r58.Log.length :: ro39 car61 ccr62 r58.Effects :: ro2 car63 r58.Cells.length r58.Cells :: ro90 car64 r58.Log.length r58.Log :: ob110 Bn70 S97 caq99 ccq100 :: ro107 caq99 ccq100 S97.cell :: L)) _ := h.sel 8 [4, 5, 6, 7, 1, 2] (by kernel_rfl) (by kernel_rfl)
         exact ⟨_, ⟨caq99, ccq100, S97, (wi (g86 + (1 : Int))), H, j, hr, h⟩, Nat.lt_succ_self _⟩
        ·
         replace H := ifF c103 H
         refine cond_tt hr (b := (!(decide (r96 = at_ r58.Effects g86.toNat)))) (by rw [show (decide (r96 = at_ r58.Effects g86.toNat)) = false from (decide_eq_false c103)]; rfl) ?_
         refine sr ?_
         refine ov hr (vB false) (by kernel_rfl) ?_; clear hr a; intro a hr
         refine ln ?_
         refine wp_ret ?_
         refine blk_ret ?_
         refine then_ret ?_
         refine then_ret ?_
         refine blk_ret ?_
         refine then_ret ?_
         refine end_ret1 (v := vB false) rfl hr (by kernel_rfl) ?_
         replace H := jx1 H hK81
         replace h : Fit z (sepL (L)) _ := h.sel 8 [] (by kernel_rfl) (by kernel_rfl)
         replace H := ej1 H; subst H
         exact ⟨rfl, h⟩
     ·
      replace H := ifF c87 H
      refine cond_ff hr (b := (decide (g86 < ((p1.length : Nat) : Int)))) (decide_eq_false c87) ?_
      refine wp_exit ?_
      refine then_exit ?_
      refine then_exit ?_
      refine blk_here ?_
      refine then_normal ?_
      replace hr := hr.fold2 [(6, pA b65 0), (8, pA Bn70 0)] (by kernel_rfl); obtain ⟨j, hr⟩ := hr
      exact ⟨(), ca84, cc85, S83, sinj H, j, hr, h⟩
   clear h hr a; rintro _ a w ⟨ca79, cc80, S78, rfl, j, hr, h⟩
   replace H := jk1 hK81
   refine sr ?_
   refine ovs [93, 94] [pA Bn70 0, pA b65 1] hr ⟨rfl, rfl⟩ (by kernel_rfl) ?_; clear hr a; intro a hr
   refine ld (wn rfl) hr (.slice car63 r58.Cells.length r58.Cells.length) (h.cell 1 rfl) ?_; clear hr a; intro a hr
   replace H := bd2 H; obtain ⟨r104, S105, e106, H⟩ := H
   replace h : Fit z (sepL (ob110 Bn70 S78 ca79 cc80 :: ro107 ca79 cc80 S78.cell :: ob70 b65 r58 car61 ccr62 car63 r58.Cells.length car64 r58.Log.length :: ro39 car61 ccr62 r58.Effects :: ro2 car63 r58.Cells.length r58.Cells :: ro90 car64 r58.Log.length r58.Log :: L)) _ := h.sel 6 [4, 5, 0, 1, 2, 3] (by kernel_rfl) (by kernel_rfl)
   have hc := plunderlaw2_holds_ok (va1 := car63) (vc1 := r58.Cells.length) (hv1 := (RdRow.of_row encZ_i64_ok (h.pick 4) (fun h => (h.pick 2)))) (H := e106) (h := h)
   refine op_call (wn rfl) rfl rfl hr (f := 34) (args := #[pA Bn70 0, .slice car63 r58.Cells.length r58.Cells.length]) (by kernel_rfl) hc ?_; clear hc h
   rintro _ w ⟨caq107, ccq108, rfl, h⟩; refine ⟨_, rfl, ?_⟩
   clear hr a; intro a hr
   refine ov hr (vB r104) (by kernel_rfl) ?_; clear hr a; intro a hr
   refine ln ?_
   refine wp_ret ?_
   refine end_ret1 (v := vB r104) rfl hr (by kernel_rfl) ?_
   replace h : Fit z (sepL (L)) _ := h.sel 6 [] (by kernel_rfl) (by kernel_rfl)
   replace H := ej1 H; subst H
   exact ⟨rfl, h⟩
  | none =>
   have hc := cells_NewShared_ok1 (H := e68) (h := h)
   refine op_call (wn rfl) rfl rfl hr (f := 28) (args := #[vI r1]) (by kernel_rfl) hc ?_; clear hc h
   rintro _ w ⟨rfl, h⟩; refine ⟨_, rfl, ?_⟩
   clear hr a; intro a hr
   refine ovs [27, 30, 31, 8, 9] [.tuple #[pN, vI r67], pN, vI r67, pN, vI r67] hr ⟨rfl, rfl⟩ (by kernel_rfl) ?_; clear hr a; intro a hr
   refine ln ?_
   refine wp_seq ?_
   refine sr ?_
   refine ovs [32, 33, 34] [vI r59, vB (r59 != (0 : Int)), vB (r59 != (0 : Int))] hr ⟨rfl, rfl⟩ (by kernel_rfl) ?_; clear hr a; intro a hr
   by_cases c109 : r59 = (0 : Int)
   ·
    replace H := ifT c109 H
    refine opv (wgt hr (bne_eq_false_iff_eq.mpr c109)) hr (vI r67) (by kernel_rfl) ?_; clear hr a; intro a hr
    refine opv (wgt hr (bne_eq_false_iff_eq.mpr c109)) hr (vB (r67 != (0 : Int))) (by kernel_rfl) ?_; clear hr a; intro a hr
    refine opv (wn rfl) hr (vB (r67 != (0 : Int))) (rp_f (b := (r59 != (0 : Int))) rfl (by kernel_rfl) (bne_eq_false_iff_eq.mpr c109) (by kernel_rfl)) ?_; clear hr a; intro a hr
    refine ov hr (vB (r67 != (0 : Int))) (by kernel_rfl) ?_; clear hr a; intro a hr
    by_cases c110 : r67 = (0 : Int)
    ·
     replace H := ifT c110 H
     refine opv (wgt hr (bne_eq_false_iff_eq.mpr c110)) hr (pN) (by kernel_rfl) ?_; clear hr a; intro a hr
     refine opv (wgt hr (bne_eq_false_iff_eq.mpr c110)) hr (vB true) (by kernel_rfl) ?_; clear hr a; intro a hr
     refine opv (wn rfl) hr (vB true) (rp_f (b := (r67 != (0 : Int))) rfl (by kernel_rfl) (bne_eq_false_iff_eq.mpr c110) (by kernel_rfl)) ?_; clear hr a; intro a hr
     refine ov hr (vB true) (by kernel_rfl) ?_; clear hr a; intro a hr
     refine offg (wgt hr (c := true) rfl) hr ?_; clear hr a; intro a hr
     refine offg (wgt hr (c := true) rfl) hr ?_; clear hr a; intro a hr
     refine offg (wgt hr (c := true) rfl) hr ?_; clear hr a; intro a hr
     refine offg (wgt hr (c := true) rfl) hr ?_; clear hr a; intro a hr
     refine offg (wgt hr (c := true) rfl) hr ?_; clear hr a; intro a hr
     refine offg (wgt hr (c := true) rfl) hr ?_; clear hr a; intro a hr
     refine ov hr (vB true) (by kernel_rfl) ?_; clear hr a; intro a hr
     refine ln ?_
     refine cond_tt hr (b := true) rfl ?_
     refine sr ?_
     refine ov hr (vB false) (by kernel_rfl) ?_; clear hr a; intro a hr
     refine ln ?_
     refine wp_ret ?_
     refine then_ret ?_
     refine end_ret1 (v := vB false) rfl hr (by kernel_rfl) ?_
     replace h : Fit z (sepL (L)) _ := h.sel 4 [] (by kernel_rfl) (by kernel_rfl)
     replace H := ej1 H; subst H
     exact ⟨rfl, h⟩
    ·
     replace H := ifF c110 H
     refine offg (wgt hr (bne_iff_ne.mpr c110)) hr ?_; clear hr a; intro a hr
     refine offg (wgt hr (bne_iff_ne.mpr c110)) hr ?_; clear hr a; intro a hr
     refine opv (wn rfl) hr (vB true) (rp_t (b := (r67 != (0 : Int))) rfl (by kernel_rfl) (bne_iff_ne.mpr c110) (by kernel_rfl)) ?_; clear hr a; intro a hr
     refine ov hr (vB true) (by kernel_rfl) ?_; clear hr a; intro a hr
     refine offg (wgt hr (c := true) rfl) hr ?_; clear hr a; intro a hr
     refine offg (wgt hr (c := true) rfl) hr ?_; clear hr a; intro a hr
     refine offg (wgt hr (c := true) rfl) hr ?_; clear hr a; intro a hr
     refine offg (wgt hr (c := true) rfl) hr ?_; clear hr a; intro a hr
     refine offg (wgt hr (c := true) rfl) hr ?_; clear hr a; intro a hr
     refine offg (wgt hr (c := true) rfl) hr ?_; clear hr a; intro a hr
     refine ov hr (vB true) (by kernel_rfl) ?_; clear hr a; intro a hr
     refine ln ?_
     refine cond_tt hr (b := true) rfl ?_
     refine sr ?_
     refine ov hr (vB false) (by kernel_rfl) ?_; clear hr a; intro a hr
     refine ln ?_
     refine wp_ret ?_
     refine then_ret ?_
     refine end_ret1 (v := vB false) rfl hr (by kernel_rfl) ?_
     replace h : Fit z (sepL (L)) _ := h.sel 4 [] (by kernel_rfl) (by kernel_rfl)
     replace H := ej1 H; subst H
     exact ⟨rfl, h⟩
   ·
    replace H := ifF c109 H
    refine offg (wgt hr (bne_iff_ne.mpr c109)) hr ?_; clear hr a; intro a hr
    refine offg (wgt hr (bne_iff_ne.mpr c109)) hr ?_; clear hr a; intro a hr
    refine opv (wn rfl) hr (vB true) (rp_t (b := (r59 != (0 : Int))) rfl (by kernel_rfl) (bne_iff_ne.mpr c109) (by kernel_rfl)) ?_; clear hr a; intro a hr
    refine ov hr (vB true) (by kernel_rfl) ?_; clear hr a; intro a hr
    refine offg (wgt hr (c := true) rfl) hr ?_; clear hr a; intro a hr
    refine offg (wgt hr (c := true) rfl) hr ?_; clear hr a; intro a hr
    refine ovs [41, 42] [vB true, vB true] hr ⟨rfl, rfl⟩ (by kernel_rfl) ?_; clear hr a; intro a hr
    refine offg (wgt hr (c := true) rfl) hr ?_; clear hr a; intro a hr
    refine offg (wgt hr (c := true) rfl) hr ?_; clear hr a; intro a hr
    refine offg (wgt hr (c := true) rfl) hr ?_; clear hr a; intro a hr
    refine offg (wgt hr (c := true) rfl) hr ?_; clear hr a; intro a hr
    refine offg (wgt hr (c := true) rfl) hr ?_; clear hr a; intro a hr
    refine offg (wgt hr (c := true) rfl) hr ?_; clear hr a; intro a hr
    refine ov hr (vB true) (by kernel_rfl) ?_; clear hr a; intro a hr
    refine ln ?_
    refine cond_tt hr (b := true) rfl ?_
    refine sr ?_
    refine ov hr (vB false) (by kernel_rfl) ?_; clear hr a; intro a hr
    refine ln ?_
    refine wp_ret ?_
    refine then_ret ?_
    refine end_ret1 (v := vB false) rfl hr (by kernel_rfl) ?_
    replace h : Fit z (sepL (L)) _ := h.sel 4 [] (by kernel_rfl) (by kernel_rfl)
    replace H := ej1 H; subst H
    exact ⟨rfl, h⟩


end Go.Proofs.Ytacgigkonoegiaa.Mo
