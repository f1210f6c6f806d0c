/- what the functions compute, as plain Lean functions, and that they do -/
import Derived.Test.YtacgigkonoegiaaCf0
namespace Go.Proofs.Ytacgigkonoegiaa.Mo
open Go Go.RowKit Go.Proofs.Ytacgigkonoegiaa.SL Go.Proofs.Ytacgigkonoegiaa.GX
set_option linter.unusedVariables false
set_option linter.unusedSimpArgs false

/-- plunder/plunderlaw2.mod -/
def plunderlaw2_mod (p0 : Int) (p1 : Int) : Option (Int) :=
  if p1 ≠ 0 then (if (p0.tmod p1) < (0 : Int) then some (wi ((p0.tmod p1) + p1)) else some (p0.tmod p1)) else none
set_option maxRecDepth 100000 in
set_option maxHeartbeats 4000000 in
theorem plunderlaw2_mod_ok {z w : World} {L : List HProp} {p0 : Int} {p1 : Int} {r0 : Int} (H : plunderlaw2_mod p0 p1 = some r0) (h : Fit z (sepL (L)) w)  :
    Calls Try.prog 23 #[vI p0, vI p1] w fun e w => e = .returned (vI r0) ∧ Fit z (sepL (L)) w := by
 unfold plunderlaw2_mod at H
 refine enter Try.func23 rfl 15 rfl rfl [(0, vI p0), (1, vI p1)] ⟨rfl, rfl, trivial⟩ ?_
 intro j a hr
 refine sr ?_
 refine ov hr (vI 0) (by kernel_rfl) ?_; clear hr a; intro a hr
 refine ln ?_
 refine sr ?_
 replace H := gd H; obtain ⟨c1, H⟩ := H
 refine ovs [6, 7] [vI p0, vI p1] hr ⟨rfl, rfl⟩ (by kernel_rfl) ?_; clear hr a; intro a hr
 refine opv (wn rfl) hr (vI (p0.tmod p1)) (rrem rfl (by kernel_rfl) (by kernel_rfl) c1) ?_; clear hr a; intro a hr
 refine ov hr (vI (p0.tmod p1)) (by kernel_rfl) ?_; clear hr a; intro a hr
 refine ln ?_
 refine wp_seq ?_
 refine sr ?_
 refine ovs [9, 10] [vI (p0.tmod p1), vB (decide ((p0.tmod p1) < (0 : Int)))] hr ⟨rfl, rfl⟩ (by kernel_rfl) ?_; clear hr a; intro a hr
 refine ln ?_
 by_cases c2 : (p0.tmod p1) < (0 : Int)
 ·
  replace H := ifT c2 H
  refine cond_tt hr (b := (decide ((p0.tmod p1) < (0 : Int)))) (decide_eq_true c2) ?_
  refine wp_region_lit ?_
  refine ovs [11, 12, 13, 5] [vI (p0.tmod p1), vI p1, vI (wi ((p0.tmod p1) + p1)), vI (wi ((p0.tmod p1) + p1))] hr ⟨rfl, rfl⟩ (by kernel_rfl) ?_; clear hr a; intro a hr
  refine ln ?_
  refine sr ?_
  refine ovs [14, 4] [vI (wi ((p0.tmod p1) + p1)), vI (wi ((p0.tmod p1) + p1))] hr ⟨rfl, rfl⟩ (by kernel_rfl) ?_; clear hr a; intro a hr
  refine ln ?_
  refine wp_ret ?_
  refine end_ret1 (v := vI (wi ((p0.tmod p1) + p1))) rfl hr (by kernel_rfl) ?_
  replace H := ej1 H; subst H
  exact ⟨rfl, h⟩
 ·
  replace H := ifF c2 H
  refine cond_ff hr (b := (decide ((p0.tmod p1) < (0 : Int)))) (decide_eq_false c2) ?_
  refine wp_skip ?_
  refine then_normal ?_
  refine sr ?_
  refine ovs [14, 4] [vI (p0.tmod p1), vI (p0.tmod p1)] hr ⟨rfl, rfl⟩ (by kernel_rfl) ?_; clear hr a; intro a hr
  refine ln ?_
  refine wp_ret ?_
  refine end_ret1 (v := vI (p0.tmod p1)) rfl hr (by kernel_rfl) ?_
  replace H := ej1 H; subst H
  exact ⟨rfl, h⟩

/-- plunder/cells.good -/
def cells_good (p0 : Int) : Option (Bool) :=
  (if p0 ≥ (0 : Int) then some (decide (p0 ≤ (1048576 : Int))) else some false)
set_option maxRecDepth 100000 in
set_option maxHeartbeats 4000000 in
theorem cells_good_ok {z w : World} {L : List HProp} {p0 : Int} {r0 : Bool} (H : cells_good p0 = some r0) (h : Fit z (sepL (L)) w)  :
    Calls Try.prog 61 #[vI p0] w fun e w => e = .returned (vB r0) ∧ Fit z (sepL (L)) w := by
 unfold cells_good at H
 refine enter Try.func61 rfl 9 rfl rfl [(0, vI p0)] ⟨rfl, trivial⟩ ?_
 intro j a hr
 refine sr ?_
 refine ov hr (vB false) (by kernel_rfl) ?_; clear hr a; intro a hr
 refine ln ?_
 refine sr ?_
 refine ovs [3, 4, 5] [vI p0, vB (decide (p0 ≥ (0 : Int))), vB (decide (p0 ≥ (0 : Int)))] hr ⟨rfl, rfl⟩ (by kernel_rfl) ?_; clear hr a; intro a hr
 by_cases c1 : p0 ≥ (0 : Int)
 ·
  replace H := ifT c1 H
  refine opv (wgt hr (decide_eq_true c1)) hr (vI p0) (by kernel_rfl) ?_; clear hr a; intro a hr
  refine opv (wgt hr (decide_eq_true c1)) hr (vB (decide (p0 ≤ (1048576 : Int)))) (by kernel_rfl) ?_; clear hr a; intro a hr
  refine opv (wn rfl) hr (vB (decide (p0 ≤ (1048576 : Int)))) (rp_t (b := (decide (p0 ≥ (0 : Int)))) rfl (by kernel_rfl) (decide_eq_true c1) (by kernel_rfl)) ?_; clear hr a; intro a hr
  refine ov hr (vB (decide (p0 ≤ (1048576 : Int)))) (by kernel_rfl) ?_; clear hr a; intro a hr
  refine ln ?_
  refine wp_ret ?_
  refine end_ret1 (v := vB (decide (p0 ≤ (1048576 : Int)))) rfl hr (by kernel_rfl) ?_
  replace H := ej1 H; subst H
  exact ⟨rfl, h⟩
 ·
  replace H := ifF c1 H
  refine offg (wgt hr (decide_eq_false c1)) hr ?_; clear hr a; intro a hr
  refine offg (wgt hr (decide_eq_false c1)) hr ?_; clear hr a; intro a hr
  refine opv (wn rfl) hr (vB false) (rp_f (b := (decide (p0 ≥ (0 : Int)))) rfl (by kernel_rfl) (decide_eq_false c1) (by kernel_rfl)) ?_; clear hr a; intro a hr
  refine ov hr (vB false) (by kernel_rfl) ?_; clear hr a; intro a hr
  refine ln ?_
  refine wp_ret ?_
  refine end_ret1 (v := vB false) rfl hr (by kernel_rfl) ?_
  replace H := ej1 H; subst H
  exact ⟨rfl, h⟩

/-- plunder/cells.NewShared -/
def cells_NewShared (p0 : Int) : Option ((Option T_cells_Shared) × Int) :=
  ob1 (cells_good p0) (fun r1 => (if r1 = true then if 0 ≤ p0 ∧ p0 * 8 ≤ 140737488355328 then some (some (⟨p0, 0, 0, 0, 0, List.replicate p0.toNat (⟨0⟩ : T_atomic_Int64)⟩ : T_cells_Shared), 0) else none else some (none, 3)))
set_option maxRecDepth 100000 in
set_option maxHeartbeats 4000000 in
theorem cells_NewShared_ok0 {z w : World} {L : List HProp} {p0 : Int} {r0 : T_cells_Shared} {r1 : Int} (H : cells_NewShared p0 = some ((some r0), r1)) (h : Fit z (sepL (L)) w)  :
    Calls Try.prog 28 #[vI p0] w fun e w => ∃ Bn0 : Nat, ∃ car0_1 : Option Addr, ∃ ccr0_2 : Nat, e = .returned (.tuple #[pA Bn0 0, vI r1]) ∧ Fit z (sepL (ob110 Bn0 r0 car0_1 ccr0_2 :: ro107 car0_1 ccr0_2 r0.cell :: L)) w := by
 unfold cells_NewShared at H
 refine enter Try.func28 rfl 13 rfl rfl [(0, vI p0)] ⟨rfl, trivial⟩ ?_
 intro j a hr
 refine sr ?_
 refine ovs [2, 3] [pN, vI 0] hr ⟨rfl, rfl⟩ (by kernel_rfl) ?_; clear hr a; intro a hr
 refine ln ?_
 refine wp_seq ?_
 refine sr ?_
 replace H := bd1 H; obtain ⟨r1, e2, H⟩ := H
 refine ov hr (vI p0) (by kernel_rfl) ?_; clear hr a; intro a hr
 have hc := cells_good_ok (H := e2) (h := h)
 refine op_call (wn rfl) rfl rfl hr (f := 61) (args := #[vI p0]) (by kernel_rfl) hc ?_; clear hc h
 rintro _ w ⟨rfl, h⟩; refine ⟨_, rfl, ?_⟩
 clear hr a; intro a hr
 refine ov hr (vB (!r1)) (by kernel_rfl) ?_; clear hr a; intro a hr
 refine ln ?_
 by_cases c3 : r1 = true
 ·
  replace H := ifT c3 H
  refine cond_ff hr (b := (!r1)) (by rw [show r1 = true from (c3)]; rfl) ?_
  refine wp_skip ?_
  refine then_normal ?_
  refine sr ?_
  replace H := gd H; obtain ⟨c4, H⟩ := H
  refine ovs [7, 8, 9] [vI p0, .agg #[vI p0, vI 0], vI p0] hr ⟨rfl, rfl⟩ (by kernel_rfl) ?_; clear hr a; intro a hr
  refine op_make_row (i := p0) (bytes := 8) (zc := #[vI 0]) (⟨0⟩ : T_atomic_Int64) (wn rfl) rfl rfl hr rfl (by kernel_rfl) (by kernel_rfl) c4 enc_T_atomic_Int64_ok (E := 107) (by kernel_rfl) (by kernel_rfl) rfl rfl h ?_; clear h hr a; intro ca5 w a h hr
  refine ov hr (.agg #[vI p0, vI 0, .int .i32 0, .int .u32 0, vI 0, .slice ca5 ((List.replicate p0.toNat (⟨0⟩ : T_atomic_Int64)).length) p0.toNat]) (by kernel_rfl) ?_; clear hr a; intro a hr
  refine op_new (wn rfl) rfl rfl hr h (vf := fun b => .pointer (some ⟨b, 0, none⟩)) (cs := #[vI p0, vI 0, .int .i32 0, .int .u32 0, vI 0, .slice ca5 ((List.replicate p0.toNat (⟨0⟩ : T_atomic_Int64)).length) p0.toNat]) (T := 110) (by kernel_rfl) ?_; clear h hr a; intro b6 w a h hr
  refine ovs [2, 3] [pA b6 0, vI 0] hr ⟨rfl, rfl⟩ (by kernel_rfl) ?_; clear hr a; intro a hr
  refine wpList_nil ?_
  replace h : Fit z (sepL (pts b6 (.cells #[vI p0, vI 0, .int .i32 0, .int .u32 0, vI 0, .slice ca5 ((List.replicate p0.toNat (⟨0⟩ : T_atomic_Int64)).length) p0.toNat] 110) :: ro107 ca5 p0.toNat (List.replicate p0.toNat (⟨0⟩ : T_atomic_Int64)) :: L)) _ := h
  refine then_normal ?_
  refine wp_ret ?_
  refine end_ret2 (v := pA b6 0) (v' := vI 0) rfl hr (by kernel_rfl) (by kernel_rfl) ?_
  cases H
  exact ⟨b6, ca5, p0.toNat, rfl, h⟩
 ·
  replace H := ifF c3 H
  refine cond_tt hr (b := (!r1)) (by rw [show r1 = false from (bF c3)]; rfl) ?_
  refine sr ?_
  refine ovs [2, 3] [pN, vI 3] hr ⟨rfl, rfl⟩ (by kernel_rfl) ?_; clear hr a; intro a hr
  refine ln ?_
  refine wp_ret ?_
  refine then_ret ?_
  refine end_ret2 (v := pN) (v' := vI 3) rfl hr (by kernel_rfl) (by kernel_rfl) ?_
  cases H

set_option maxRecDepth 100000 in
set_option maxHeartbeats 4000000 in
theorem cells_NewShared_ok1 {z w : World} {L : List HProp} {p0 : Int} {r1 : Int} (H : cells_NewShared p0 = some (none, r1)) (h : Fit z (sepL (L)) w)  :
    Calls Try.prog 28 #[vI p0] w fun e w => e = .returned (.tuple #[pN, vI r1]) ∧ Fit z (sepL (L)) w := by
 unfold cells_NewShared at H
 refine enter Try.func28 rfl 13 rfl rfl [(0, vI p0)] ⟨rfl, trivial⟩ ?_
 intro j a hr
 refine sr ?_
 refine ovs [2, 3] [pN, vI 0] hr ⟨rfl, rfl⟩ (by kernel_rfl) ?_; clear hr a; intro a hr
 refine ln ?_
 refine wp_seq ?_
 refine sr ?_
 replace H := bd1 H; obtain ⟨r1, e2, H⟩ := H
 refine ov hr (vI p0) (by kernel_rfl) ?_; clear hr a; intro a hr
 have hc := cells_good_ok (H := e2) (h := h)
 refine op_call (wn rfl) rfl rfl hr (f := 61) (args := #[vI p0]) (by kernel_rfl) hc ?_; clear hc h
 rintro _ w ⟨rfl, h⟩; refine ⟨_, rfl, ?_⟩
 clear hr a; intro a hr
 refine ov hr (vB (!r1)) (by kernel_rfl) ?_; clear hr a; intro a hr
 refine ln ?_
 by_cases c3 : r1 = true
 ·
  replace H := ifT c3 H
  refine cond_ff hr (b := (!r1)) (by rw [show r1 = true from (c3)]; rfl) ?_
  refine wp_skip ?_
  refine then_normal ?_
  refine sr ?_
  replace H := gd H; obtain ⟨c4, H⟩ := H
  refine ovs [7, 8, 9] [vI p0, .agg #[vI p0, vI 0], vI p0] hr ⟨rfl, rfl⟩ (by kernel_rfl) ?_; clear hr a; intro a hr
  refine op_make_row (i := p0) (bytes := 8) (zc := #[vI 0]) (⟨0⟩ : T_atomic_Int64) (wn rfl) rfl rfl hr rfl (by kernel_rfl) (by kernel_rfl) c4 enc_T_atomic_Int64_ok (E := 107) (by kernel_rfl) (by kernel_rfl) rfl rfl h ?_; clear h hr a; intro ca5 w a h hr
  refine ov hr (.agg #[vI p0, vI 0, .int .i32 0, .int .u32 0, vI 0, .slice ca5 ((List.replicate p0.toNat (⟨0⟩ : T_atomic_Int64)).length) p0.toNat]) (by kernel_rfl) ?_; clear hr a; intro a hr
  refine op_new (wn rfl) rfl rfl hr h (vf := fun b => .pointer (some ⟨b, 0, none⟩)) (cs := #[vI p0, vI 0, .int .i32 0, .int .u32 0, vI 0, .slice ca5 ((List.replicate p0.toNat (⟨0⟩ : T_atomic_Int64)).length) p0.toNat]) (T := 110) (by kernel_rfl) ?_; clear h hr a; intro b6 w a h hr
  refine ovs [2, 3] [pA b6 0, vI 0] hr ⟨rfl, rfl⟩ (by kernel_rfl) ?_; clear hr a; intro a hr
  refine wpList_nil ?_
  replace h : Fit z (sepL (pts b6 (.cells #[vI p0, vI 0, .int .i32 0, .int .u32 0, vI 0, .slice ca5 ((List.replicate p0.toNat (⟨0⟩ : T_atomic_Int64)).length) p0.toNat] 110) :: ro107 ca5 p0.toNat (List.replicate p0.toNat (⟨0⟩ : T_atomic_Int64)) :: L)) _ := h
  refine then_normal ?_
  refine wp_ret ?_
  refine end_ret2 (v := pA b6 0) (v' := vI 0) rfl hr (by kernel_rfl) (by kernel_rfl) ?_
  cases H
 ·
  replace H := ifF c3 H
  refine cond_tt hr (b := (!r1)) (by rw [show r1 = false from (bF c3)]; rfl) ?_
  refine sr ?_
  refine ovs [2, 3] [pN, vI 3] hr ⟨rfl, rfl⟩ (by kernel_rfl) ?_; clear hr a; intro a hr
  refine ln ?_
  refine wp_ret ?_
  refine then_ret ?_
  refine end_ret2 (v := pN) (v' := vI 3) rfl hr (by kernel_rfl) (by kernel_rfl) ?_
  cases H
  exact ⟨rfl, h⟩

/-- (*plunder/cells.ledger).refuse -/
def cells_ledger_refuse (p0 : T_cells_Shared) (p1 : Int) : Option (Int) :=
  (if p1 < (1 : Int) then some 21 else (if p1 > (wi (p0.ledger_size - p0.ledger_mark)) then some 22 else some 0))
set_option maxRecDepth 100000 in
set_option maxHeartbeats 4000000 in
theorem cells_ledger_refuse_ok {z w : World} {L : List HProp} {p0 : T_cells_Shared} {p1 : Int} {B0 : Nat} {ca1 : Option Addr} {cc2 : Nat} {r0 : Int} (H : cells_ledger_refuse p0 p1 = some r0) (h : Fit z (sepL (ob110 B0 p0 ca1 cc2 :: ro107 ca1 cc2 p0.cell :: L)) w)  :
    Calls Try.prog 62 #[pA B0 0, vI p1] w fun e w => e = .returned (vI r0) ∧ Fit z (sepL (ob110 B0 p0 ca1 cc2 :: ro107 ca1 cc2 p0.cell :: L)) w := by
 unfold cells_ledger_refuse at H
 refine enter Try.func62 rfl 22 rfl rfl [(0, pA B0 0), (1, vI p1)] ⟨rfl, rfl, trivial⟩ ?_
 intro j a hr
 refine sr ?_
 refine ov hr (vI 0) (by kernel_rfl) ?_; clear hr a; intro a hr
 refine ln ?_
 refine wp_seq ?_
 refine sr ?_
 refine ovs [5, 6] [vI p1, vB (decide (p1 < (1 : Int)))] hr ⟨rfl, rfl⟩ (by kernel_rfl) ?_; clear hr a; intro a hr
 refine ln ?_
 by_cases c3 : p1 < (1 : Int)
 ·
  replace H := ifT c3 H
  refine cond_tt hr (b := (decide (p1 < (1 : Int)))) (decide_eq_true c3) ?_
  refine sr ?_
  refine ov hr (vI 21) (by kernel_rfl) ?_; clear hr a; intro a hr
  refine ln ?_
  refine wp_ret ?_
  refine then_ret ?_
  refine end_ret1 (v := vI 21) rfl hr (by kernel_rfl) ?_
  replace H := ej1 H; subst H
  exact ⟨rfl, h⟩
 ·
  replace H := ifF c3 H
  refine cond_ff hr (b := (decide (p1 < (1 : Int)))) (decide_eq_false c3) ?_
  refine wp_skip ?_
  refine then_normal ?_
  refine wp_seq ?_
  refine wp_seq ?_
  refine reg_E (fun w => heldC w B0 0 ([vI p0.ledger_size]) ∧ heldC w B0 1 ([vI p0.ledger_mark]) ∧ True) [1, 5, 6, 9, 10] h (by kernel_rfl) ?_; intro w h
  change wpAnyE _ _ _ _ _ _ 15 (Array.replicate 15 false) a w
  have hgo : ∀ w w', CellsGo w w' → (heldC w B0 0 ([vI p0.ledger_size]) ∧ heldC w B0 1 ([vI p0.ledger_mark]) ∧ True) → heldC w' B0 0 ([vI p0.ledger_size]) ∧ heldC w' B0 1 ([vI p0.ledger_mark]) ∧ True := fun w w' g hD => ⟨heldC_go _ _ _ _ _ g hD.1, heldC_go _ _ _ _ _ g hD.2.1, trivial⟩
  refine ev 14 0 rfl (by kernel_rfl) (wn rfl) hr (pA B0 0) (fun w => by kernel_rfl) ?_; clear hr a; intro a hr
  refine evD hgo ⟨⟨h.cell 0 rfl, trivial⟩, ⟨h.cell 1 rfl, trivial⟩, trivial⟩ 13 1 rfl (by kernel_rfl) (wn rfl) hr (vB false) (fun w => by kernel_rfl) ?_; clear hr a; intro a hr
  refine ev 12 2 rfl (by kernel_rfl) (wn rfl) hr (vB false) (fun w => by kernel_rfl) ?_; clear hr a; intro a hr
  refine ev 11 3 rfl (by kernel_rfl) (wgt hr (c := false) rfl) hr (vI p1) (fun w => by kernel_rfl) ?_; clear hr a; intro a hr
  refine ev 10 4 rfl (by kernel_rfl) (wgt hr (c := false) rfl) hr (pA B0 0) (fun w => by kernel_rfl) ?_; clear hr a; intro a hr
  refine evD hgo ⟨⟨h.cell 0 rfl, trivial⟩, ⟨h.cell 1 rfl, trivial⟩, trivial⟩ 9 5 rfl (by kernel_rfl) (wgt hr (c := false) rfl) hr (pA B0 0) (fun w => by kernel_rfl) ?_; clear hr a; intro a hr
  refine evD hgo ⟨⟨h.cell 0 rfl, trivial⟩, ⟨h.cell 1 rfl, trivial⟩, trivial⟩ 8 6 rfl (by kernel_rfl) (wgt hr (c := false) rfl) hr (pA B0 0) (fun w => by kernel_rfl) ?_; clear hr a; intro a hr
  refine ev 7 8 rfl (by kernel_rfl) (wgt hr (c := false) rfl) hr (pA B0 0) (fun w => by kernel_rfl) ?_; clear hr a; intro a hr
  refine evD hgo ⟨⟨h.cell 0 rfl, trivial⟩, ⟨h.cell 1 rfl, trivial⟩, trivial⟩ 6 9 rfl (by kernel_rfl) (wgt hr (c := false) rfl) hr (pA B0 0) (fun w => by kernel_rfl) ?_; clear hr a; intro a hr
  refine evD hgo ⟨⟨h.cell 0 rfl, trivial⟩, ⟨h.cell 1 rfl, trivial⟩, trivial⟩ 5 10 rfl (by kernel_rfl) (wgt hr (c := false) rfl) hr (pA B0 1) (fun w => by kernel_rfl) ?_; clear hr a; intro a hr
  refine el [1, 5, 6, 9, 10] (b := B0) (off := 0) (cs := [vI p0.ledger_size]) (fun _ hk => ⟨hk, fun w hD => hD.1⟩) 4 7 rfl (by kernel_rfl) (wgt hr (c := false) rfl) hr (vI p0.ledger_size) ⟨h.cell 0 rfl, trivial⟩ (fun w hc => rl rfl (by kernel_rfl) (by kernel_rfl) hc.1) ?_; clear hr a; intro a hr
  refine el [1, 5, 6, 9, 10] (b := B0) (off := 1) (cs := [vI p0.ledger_mark]) (fun _ hk => ⟨hk, fun w hD => hD.2.1⟩) 3 11 rfl (by kernel_rfl) (wgt hr (c := false) rfl) hr (vI p0.ledger_mark) ⟨h.cell 1 rfl, trivial⟩ (fun w hc => rl rfl (by kernel_rfl) (by kernel_rfl) hc.1) ?_; clear hr a; intro a hr
  refine ev 2 12 rfl (by kernel_rfl) (wgt hr (c := false) rfl) hr (vI (wi (p0.ledger_size - p0.ledger_mark))) (fun w => by kernel_rfl) ?_; clear hr a; intro a hr
  refine ev 1 13 rfl (by kernel_rfl) (wgt hr (c := false) rfl) hr (vB (decide (p1 > (wi (p0.ledger_size - p0.ledger_mark))))) (fun w => by kernel_rfl) ?_; clear hr a; intro a hr
  refine ev 0 14 rfl (by kernel_rfl) (wn rfl) hr (vB (decide (p1 > (wi (p0.ledger_size - p0.ledger_mark))))) (fun w => by kernel_rfl) ?_; clear hr a; intro a hr
  refine e_end (by kernel_rfl) ?_
  refine then_normal ?_
  by_cases c4 : p1 > (wi (p0.ledger_size - p0.ledger_mark))
  ·
   replace H := ifT c4 H
   refine cond_tt hr (b := (decide (p1 > (wi (p0.ledger_size - p0.ledger_mark))))) (decide_eq_true c4) ?_
   refine sr ?_
   refine ov hr (vI 22) (by kernel_rfl) ?_; clear hr a; intro a hr
   refine ln ?_
   refine wp_ret ?_
   refine then_ret ?_
   refine end_ret1 (v := vI 22) rfl hr (by kernel_rfl) ?_
   replace H := ej1 H; subst H
   exact ⟨rfl, h⟩
  ·
   replace H := ifF c4 H
   refine cond_ff hr (b := (decide (p1 > (wi (p0.ledger_size - p0.ledger_mark))))) (decide_eq_false c4) ?_
   refine wp_skip ?_
   refine then_normal ?_
   refine sr ?_
   refine ov hr (vI 0) (by kernel_rfl) ?_; clear hr a; intro a hr
   refine ln ?_
   refine wp_ret ?_
   refine end_ret1 (v := vI 0) rfl hr (by kernel_rfl) ?_
   replace H := ej1 H; subst H
   exact ⟨rfl, h⟩

/-- (*plunder/cells.ledger).take -/
def cells_ledger_take (p0 : T_cells_Shared) (p1 : Int) : Option (Int × T_cells_Shared) :=
  some (p0.ledger_mark, { p0 with ledger_mark := wi (p0.ledger_mark + p1) })
set_option maxRecDepth 100000 in
set_option maxHeartbeats 4000000 in
theorem cells_ledger_take_ok {z w : World} {L : List HProp} {p0 : T_cells_Shared} {p1 : Int} {B0 : Nat} {ca1 : Option Addr} {cc2 : Nat} {r0 : Int} {q0 : T_cells_Shared} (H : cells_ledger_take p0 p1 = some (r0, q0)) (h : Fit z (sepL (ob110 B0 p0 ca1 cc2 :: ro107 ca1 cc2 p0.cell :: L)) w)  :
    Calls Try.prog 63 #[pA B0 0, vI p1] w fun e w => ∃ caq0_1 : Option Addr, ∃ ccq0_2 : Nat, e = .returned (vI r0) ∧ Fit z (sepL (ob110 B0 q0 caq0_1 ccq0_2 :: ro107 caq0_1 ccq0_2 q0.cell :: L)) w := by
 unfold cells_ledger_take at H
 refine enter Try.func63 rfl 19 rfl rfl [(0, pA B0 0), (1, vI p1)] ⟨rfl, rfl, trivial⟩ ?_
 intro j a hr
 refine sr ?_
 refine ov hr (vI 0) (by kernel_rfl) ?_; clear hr a; intro a hr
 refine ln ?_
 refine sr ?_
 refine ovs [6, 7, 8] [pA B0 0, pA B0 0, pA B0 1] hr ⟨rfl, rfl⟩ (by kernel_rfl) ?_; clear hr a; intro a hr
 refine ld (wn rfl) hr (vI p0.ledger_mark) (h.cell 1 rfl) ?_; clear hr a; intro a hr
 refine ov hr (vI p0.ledger_mark) (by kernel_rfl) ?_; clear hr a; intro a hr
 refine ln ?_
 refine sr ?_
 refine ovs [10, 11, 12] [pA B0 0, pA B0 0, pA B0 1] hr ⟨rfl, rfl⟩ (by kernel_rfl) ?_; clear hr a; intro a hr
 refine ld (wn rfl) hr (vI p0.ledger_mark) (h.cell 1 rfl) ?_; clear hr a; intro a hr
 refine ovs [14, 15, 16, 17] [vI p1, vI (wi (p0.ledger_mark + p1)), pA B0 0, pA B0 1] hr ⟨rfl, rfl⟩ (by kernel_rfl) ?_; clear hr a; intro a hr
 refine op_store (wn rfl) rfl hr rfl (by kernel_rfl) (by kernel_rfl) (v := vI (wi (p0.ledger_mark + p1))) rfl rfl (by kernel_rfl) h (i := 1) rfl ?_; clear h; intro w h
 refine wpList_nil ?_
 replace h : Fit z (sepL (pts B0 (.cells #[vI p0.ledger_size, vI (wi (p0.ledger_mark + p1)), .int .i32 p0.lock_mu_state, .int .u32 p0.lock_mu_sema, vI p0.given_v, .slice ca1 p0.cell.length cc2] 110) :: ro107 ca1 cc2 p0.cell :: L)) _ := h
 refine then_normal ?_
 refine sr ?_
 refine ovs [18, 4] [vI p0.ledger_mark, vI p0.ledger_mark] hr ⟨rfl, rfl⟩ (by kernel_rfl) ?_; clear hr a; intro a hr
 refine ln ?_
 refine wp_ret ?_
 refine end_ret1 (v := vI p0.ledger_mark) rfl hr (by kernel_rfl) ?_
 replace H := ej2 H; obtain ⟨rfl, rfl⟩ := H
 exact ⟨ca1, cc2, rfl, h⟩

/-- (*plunder/cells.Shared).Reserve -/
def cells_Shared_Reserve (p0 : T_cells_Shared) (p1 : Int) : Option (Int × Int × T_cells_Shared) :=
  if p0.lock_mu_state = 0 then ob1 (cells_ledger_refuse ({ p0 with lock_mu_state := 1 }) p1) (fun r4 => (if r4 = (0 : Int) then ob2 (cells_ledger_take ({ p0 with lock_mu_state := 1 }) p1) (fun r7 S8 => if S8.lock_mu_state = 1 then some (r7, 0, { S8 with lock_mu_state := 0, given_v := wi (r7 + p1) }) else none) else some (0, r4, { p0 with lock_mu_state := 0 }))) else none
set_option maxRecDepth 100000 in
set_option maxHeartbeats 4000000 in
theorem cells_Shared_Reserve_ok {z w : World} {L : List HProp} {p0 : T_cells_Shared} {p1 : Int} {B0 : Nat} {ca1 : Option Addr} {cc2 : Nat} {r0 : Int} {r1 : Int} {q0 : T_cells_Shared} (H : cells_Shared_Reserve p0 p1 = some (r0, r1, q0)) (h : Fit z (sepL (ob110 B0 p0 ca1 cc2 :: ro107 ca1 cc2 p0.cell :: L)) w)  :
    Calls Try.prog 77 #[pA B0 0, vI p1] w fun e w => ∃ caq0_1 : Option Addr, ∃ ccq0_2 : Nat, e = .returned (.tuple #[vI r0, vI r1]) ∧ Fit z (sepL (ob110 B0 q0 caq0_1 ccq0_2 :: ro107 caq0_1 ccq0_2 q0.cell :: L)) w := by
 unfold cells_Shared_Reserve at H
 refine enterD Try.func77 rfl 42 rfl rfl [(0, pA B0 0), (1, vI p1)] ⟨rfl, rfl, trivial⟩ ?_
 intro j a hr
 refine sr ?_
 refine ovs [4, 5] [vI 0, vI 0] hr ⟨rfl, rfl⟩ (by kernel_rfl) ?_; clear hr a; intro a hr
 refine ln ?_
 refine wp_seq ?_
 refine sr ?_
 refine ovs [9, 10] [pA B0 0, vB false] hr ⟨rfl, rfl⟩ (by kernel_rfl) ?_; clear hr a; intro a hr
 refine ln ?_
 refine cond_ff hr (b := false) rfl ?_
 refine wp_skip ?_
 refine then_normal ?_
 refine sr ?_
 replace H := gd H; obtain ⟨c3, H⟩ := H
 refine ovs [14, 15, 16] [pA B0 0, pA B0 0, pA B0 2] hr ⟨rfl, rfl⟩ (by kernel_rfl) ?_; clear hr a; intro a hr
 refine op_lock muLib (wn rfl) rfl rfl hr h (i := 2) (cs' := #[vI p0.ledger_size, vI p0.ledger_mark, .int .i32 1, .int .u32 p0.lock_mu_sema, vI p0.given_v, .slice ca1 p0.cell.length cc2]) (congrArg (fun q => some (Value.int .i32 q)) c3) rfl (by kernel_rfl) ?_; clear h hr a; intro w a h hr
 refine wpList_nil ?_
 replace h : Fit z (sepL (pts B0 (.cells #[vI p0.ledger_size, vI p0.ledger_mark, .int .i32 1, .int .u32 p0.lock_mu_sema, vI p0.given_v, .slice ca1 p0.cell.length cc2] 110) :: ro107 ca1 cc2 p0.cell :: L)) _ := h
 refine then_normal ?_
 refine sr ?_
 refine ovs [18, 19, 20] [pA B0 0, pA B0 0, pA B0 2] hr ⟨rfl, rfl⟩ (by kernel_rfl) ?_; clear hr a; intro a hr
 refine op_defer (wn rfl) rfl hr (q := { target := .fn (.func 83) #[], args := #[pA B0 2] }) (by kernel_rfl) ?_; clear hr a; intro a hr
 refine ln ?_
 refine wp_seq ?_
 refine sr ?_
 replace H := bd1 H; obtain ⟨r4, e5, H⟩ := H
 refine ovs [21, 22, 23, 24] [pA B0 0, pA B0 0, pA B0 0, vI p1] hr ⟨rfl, rfl⟩ (by kernel_rfl) ?_; clear hr a; intro a hr
 have hc := cells_ledger_refuse_ok (H := e5) (h := h)
 refine op_call (wn rfl) rfl rfl hr (f := 62) (args := #[pA B0 0, vI p1]) (by kernel_rfl) hc ?_; clear hc h
 rintro _ w ⟨rfl, h⟩; refine ⟨_, rfl, ?_⟩
 clear hr a; intro a hr
 refine ov hr (vI r4) (by kernel_rfl) ?_; clear hr a; intro a hr
 refine ln ?_
 refine sr ?_
 refine ovs [26, 27] [vI r4, vB (r4 != (0 : Int))] hr ⟨rfl, rfl⟩ (by kernel_rfl) ?_; clear hr a; intro a hr
 refine ln ?_
 by_cases c6 : r4 = (0 : Int)
 ·
  replace H := ifT c6 H
  refine cond_ff hr (b := (r4 != (0 : Int))) (bne_eq_false_iff_eq.mpr c6) ?_
  refine wp_skip ?_
  refine then_normal ?_
  refine sr ?_
  replace H := bd2 H; obtain ⟨r7, S8, e9, H⟩ := H
  refine ovs [29, 30, 31, 32] [pA B0 0, pA B0 0, pA B0 0, vI p1] hr ⟨rfl, rfl⟩ (by kernel_rfl) ?_; clear hr a; intro a hr
  have hc := cells_ledger_take_ok (H := e9) (h := h)
  refine op_call (wn rfl) rfl rfl hr (f := 63) (args := #[pA B0 0, vI p1]) (by kernel_rfl) hc ?_; clear hc h
  rintro _ w ⟨caq10, ccq11, rfl, h⟩; refine ⟨_, rfl, ?_⟩
  clear hr a; intro a hr
  refine ov hr (vI r7) (by kernel_rfl) ?_; clear hr a; intro a hr
  refine ln ?_
  refine sr ?_
  refine ovs [34, 35, 36, 37, 38, 39] [pA B0 0, pA B0 0, pA B0 4, vI r7, vI p1, vI (wi (r7 + p1))] hr ⟨rfl, rfl⟩ (by kernel_rfl) ?_; clear hr a; intro a hr
  refine op_set_pts (wn rfl) rfl rfl hr h (i := 4) (cs' := #[vI S8.ledger_size, vI S8.ledger_mark, .int .i32 S8.lock_mu_state, .int .u32 S8.lock_mu_sema, vI (wi (r7 + p1)), .slice caq10 S8.cell.length ccq11]) (vI (wi (r7 + p1))) (.tuple #[]) rfl rfl (by kernel_rfl) (fun hc hz => a_store hc hz) ?_; clear h hr a; intro w a h hr
  refine wpList_nil ?_
  replace h : Fit z (sepL (pts B0 (.cells #[vI S8.ledger_size, vI S8.ledger_mark, .int .i32 S8.lock_mu_state, .int .u32 S8.lock_mu_sema, vI (wi (r7 + p1)), .slice caq10 S8.cell.length ccq11] 110) :: ro107 caq10 ccq11 S8.cell :: L)) _ := h
  refine then_normal ?_
  refine sr ?_
  refine ovs [41, 4, 5] [vI r7, vI r7, vI 0] hr ⟨rfl, rfl⟩ (by kernel_rfl) ?_; clear hr a; intro a hr
  refine ln ?_
  refine wp_ret ?_
  replace H := gd H; obtain ⟨c12, H⟩ := H
  refine endD_unlock muLib hr (fun w => res2 (v := vI r7) (v' := vI 0) rfl hr (by kernel_rfl) (by kernel_rfl) w) (fun _ => by kernel_rfl) h (i := 2) (cs' := #[vI S8.ledger_size, vI S8.ledger_mark, .int .i32 0, .int .u32 S8.lock_mu_sema, vI (wi (r7 + p1)), .slice caq10 S8.cell.length ccq11]) (congrArg (fun q => some (Value.int .i32 q)) c12) rfl ?_; clear h; intro w h
  replace H := ej3 H; obtain ⟨rfl, rfl, rfl⟩ := H
  exact ⟨caq10, ccq11, rfl, h⟩
 ·
  replace H := ifF c6 H
  refine cond_tt hr (b := (r4 != (0 : Int))) (bne_iff_ne.mpr c6) ?_
  refine sr ?_
  refine ovs [28, 4, 5] [vI r4, vI 0, vI r4] hr ⟨rfl, rfl⟩ (by kernel_rfl) ?_; clear hr a; intro a hr
  refine ln ?_
  refine wp_ret ?_
  refine then_ret ?_
  refine endD_unlock muLib hr (fun w => res2 (v := vI 0) (v' := vI r4) rfl hr (by kernel_rfl) (by kernel_rfl) w) (fun _ => by kernel_rfl) h (i := 2) (cs' := #[vI p0.ledger_size, vI p0.ledger_mark, .int .i32 0, .int .u32 p0.lock_mu_sema, vI p0.given_v, .slice ca1 p0.cell.length cc2]) rfl rfl ?_; clear h; intro w h
  replace H := ej3 H; obtain ⟨rfl, rfl, rfl⟩ := H
  exact ⟨ca1, cc2, rfl, h⟩

/-- (*plunder/cells.Shared).outside -/
def cells_Shared_outside (p0 : T_cells_Shared) (p1 : Int) : Option (Bool) :=
  (if p1 < (0 : Int) then some true else some (decide (p1 ≥ p0.given_v)))
set_option maxRecDepth 100000 in
set_option maxHeartbeats 4000000 in
theorem cells_Shared_outside_ok {z w : World} {L : List HProp} {p0 : T_cells_Shared} {p1 : Int} {B0 : Nat} {ca1 : Option Addr} {cc2 : Nat} {r0 : Bool} (H : cells_Shared_outside p0 p1 = some r0) (h : Fit z (sepL (ob110 B0 p0 ca1 cc2 :: ro107 ca1 cc2 p0.cell :: L)) w)  :
    Calls Try.prog 103 #[pA B0 0, vI p1] w fun e w => e = .returned (vB r0) ∧ Fit z (sepL (ob110 B0 p0 ca1 cc2 :: ro107 ca1 cc2 p0.cell :: L)) w := by
 unfold cells_Shared_outside at H
 refine enter Try.func103 rfl 19 rfl rfl [(0, pA B0 0), (1, vI p1)] ⟨rfl, rfl, trivial⟩ ?_
 intro j a hr
 refine sr ?_
 refine ov hr (vB false) (by kernel_rfl) ?_; clear hr a; intro a hr
 refine ln ?_
 refine sr ?_
 refine ovs [5, 6, 7] [pA B0 0, vB false, vB false] hr ⟨rfl, rfl⟩ (by kernel_rfl) ?_; clear hr a; intro a hr
 refine opv (wgt hr (c := false) rfl) hr (vI p1) (by kernel_rfl) ?_; clear hr a; intro a hr
 refine opv (wgt hr (c := false) rfl) hr (vB (decide (p1 < (0 : Int)))) (by kernel_rfl) ?_; clear hr a; intro a hr
 refine ovs [10, 11] [vB (decide (p1 < (0 : Int))), vB (decide (p1 < (0 : Int)))] hr ⟨rfl, rfl⟩ (by kernel_rfl) ?_; clear hr a; intro a hr
 by_cases c3 : p1 < (0 : Int)
 ·
  replace H := ifT c3 H
  refine offg (wgt hr (decide_eq_true c3)) hr ?_; clear hr a; intro a hr
  refine offg (wgt hr (decide_eq_true c3)) hr ?_; clear hr a; intro a hr
  refine offg (wgt hr (decide_eq_true c3)) hr ?_; clear hr a; intro a hr
  refine offg (wgt hr (decide_eq_true c3)) hr ?_; clear hr a; intro a hr
  refine offg (wgt hr (decide_eq_true c3)) hr ?_; clear hr a; intro a hr
  refine offg (wgt hr (decide_eq_true c3)) hr ?_; clear hr a; intro a hr
  refine opv (wn rfl) hr (vB true) (rp_t (b := (decide (p1 < (0 : Int)))) rfl (by kernel_rfl) (decide_eq_true c3) (by kernel_rfl)) ?_; clear hr a; intro a hr
  refine ov hr (vB true) (by kernel_rfl) ?_; clear hr a; intro a hr
  refine ln ?_
  refine wp_ret ?_
  refine end_ret1 (v := vB true) rfl hr (by kernel_rfl) ?_
  replace H := ej1 H; subst H
  exact ⟨rfl, h⟩
 ·
  replace H := ifF c3 H
  refine opv (wgt hr (decide_eq_false c3)) hr (vI p1) (by kernel_rfl) ?_; clear hr a; intro a hr
  refine opv (wgt hr (decide_eq_false c3)) hr (pA B0 0) (by kernel_rfl) ?_; clear hr a; intro a hr
  refine opv (wgt hr (decide_eq_false c3)) hr (pA B0 0) (by kernel_rfl) ?_; clear hr a; intro a hr
  refine opv (wgt hr (decide_eq_false c3)) hr (pA B0 4) (by kernel_rfl) ?_; clear hr a; intro a hr
  refine op_call (wgt hr (decide_eq_false c3)) rfl rfl hr (f := 104) (args := #[pA B0 4]) (by kernel_rfl) (a_load (h.cell 4 rfl)) ?_; rintro _ _ ⟨rfl, rfl⟩; refine ⟨_, rfl, ?_⟩; clear hr a; intro a hr
  refine opv (wgt hr (decide_eq_false c3)) hr (vB (decide (p1 ≥ p0.given_v))) (by kernel_rfl) ?_; clear hr a; intro a hr
  refine opv (wn rfl) hr (vB (decide (p1 ≥ p0.given_v))) (rp_f (b := (decide (p1 < (0 : Int)))) rfl (by kernel_rfl) (decide_eq_false c3) (by kernel_rfl)) ?_; clear hr a; intro a hr
  refine ov hr (vB (decide (p1 ≥ p0.given_v))) (by kernel_rfl) ?_; clear hr a; intro a hr
  refine ln ?_
  refine wp_ret ?_
  refine end_ret1 (v := vB (decide (p1 ≥ p0.given_v))) rfl hr (by kernel_rfl) ?_
  replace H := ej1 H; subst H
  exact ⟨rfl, h⟩

/-- (*plunder/cells.Shared).Load -/
def cells_Shared_Load (p0 : T_cells_Shared) (p1 : Int) : Option (Int × Int) :=
  ob1 (cells_Shared_outside p0 p1) (fun r3 => (if r3 = true then some (0, 20) else if inr_ p1 p0.cell.length then some ((at_ p0.cell p1.toNat).v, 0) else none))
set_option maxRecDepth 100000 in
set_option maxHeartbeats 4000000 in
theorem cells_Shared_Load_ok {z w : World} {L : List HProp} {p0 : T_cells_Shared} {p1 : Int} {B0 : Nat} {ca1 : Option Addr} {cc2 : Nat} {r0 : Int} {r1 : Int} (H : cells_Shared_Load p0 p1 = some (r0, r1)) (h : Fit z (sepL (ob110 B0 p0 ca1 cc2 :: ro107 ca1 cc2 p0.cell :: L)) w)  :
    Calls Try.prog 73 #[pA B0 0, vI p1] w fun e w => e = .returned (.tuple #[vI r0, vI r1]) ∧ Fit z (sepL (ob110 B0 p0 ca1 cc2 :: ro107 ca1 cc2 p0.cell :: L)) w := by
 unfold cells_Shared_Load at H
 refine enter Try.func73 rfl 16 rfl rfl [(0, pA B0 0), (1, vI p1)] ⟨rfl, rfl, trivial⟩ ?_
 intro j a hr
 refine sr ?_
 refine ovs [4, 5] [vI 0, vI 0] hr ⟨rfl, rfl⟩ (by kernel_rfl) ?_; clear hr a; intro a hr
 refine ln ?_
 refine wp_seq ?_
 refine sr ?_
 replace H := bd1 H; obtain ⟨r3, e4, H⟩ := H
 refine ovs [6, 7] [pA B0 0, vI p1] hr ⟨rfl, rfl⟩ (by kernel_rfl) ?_; clear hr a; intro a hr
 have hc := cells_Shared_outside_ok (H := e4) (h := h)
 refine op_call (wn rfl) rfl rfl hr (f := 103) (args := #[pA B0 0, vI p1]) (by kernel_rfl) hc ?_; clear hc h
 rintro _ w ⟨rfl, h⟩; refine ⟨_, rfl, ?_⟩
 clear hr a; intro a hr
 refine ln ?_
 by_cases c5 : r3 = true
 ·
  replace H := ifT c5 H
  refine cond_tt hr (b := r3) (c5) ?_
  refine sr ?_
  refine ovs [4, 5] [vI 0, vI 20] hr ⟨rfl, rfl⟩ (by kernel_rfl) ?_; clear hr a; intro a hr
  refine ln ?_
  refine wp_ret ?_
  refine then_ret ?_
  refine end_ret2 (v := vI 0) (v' := vI 20) rfl hr (by kernel_rfl) (by kernel_rfl) ?_
  replace H := ej2 H; obtain ⟨rfl, rfl⟩ := H
  exact ⟨rfl, h⟩
 ·
  replace H := ifF c5 H
  refine cond_ff hr (b := r3) (bF c5) ?_
  refine wp_skip ?_
  refine then_normal ?_
  refine sr ?_
  refine ovs [9, 10, 11] [pA B0 0, pA B0 0, pA B0 5] hr ⟨rfl, rfl⟩ (by kernel_rfl) ?_; clear hr a; intro a hr
  refine ld (wn rfl) hr (.slice ca1 p0.cell.length cc2) (h.cell 5 rfl) ?_; clear hr a; intro a hr
  replace H := gd H; obtain ⟨c6, H⟩ := H
  refine ov hr (vI p1) (by kernel_rfl) ?_; clear hr a; intro a hr
  refine opv (wn rfl) hr (pA (blk ca1) (p1.toNat * 1)) (ri_row (k := .i64) (E := 107) rfl (by kernel_rfl) (by kernel_rfl) (by kernel_rfl) (by kernel_rfl) (h.pick 1) c6) ?_; clear hr a; intro a hr
  refine op_call (wn rfl) rfl rfl hr (f := 104) (args := #[pA (blk ca1) (p1.toNat * 1)]) (by kernel_rfl) (a_load ((h.pick 1).row_cell enc_T_atomic_Int64_ok (f := 0) (at_ok c6) rfl)) ?_; rintro _ _ ⟨rfl, rfl⟩; refine ⟨_, rfl, ?_⟩; clear hr a; intro a hr
  refine ovs [4, 5] [vI ((at_ p0.cell p1.toNat).v), vI 0] hr ⟨rfl, rfl⟩ (by kernel_rfl) ?_; clear hr a; intro a hr
  refine ln ?_
  refine wp_ret ?_
  refine end_ret2 (v := vI ((at_ p0.cell p1.toNat).v)) (v' := vI 0) rfl hr (by kernel_rfl) (by kernel_rfl) ?_
  replace H := ej2 H; obtain ⟨rfl, rfl⟩ := H
  exact ⟨rfl, h⟩

/-- (*plunder/cells.Shared).Store -/
def cells_Shared_Store (p0 : T_cells_Shared) (p1 : Int) (p2 : Int) : Option (Int × T_cells_Shared) :=
  ob1 (cells_Shared_outside p0 p1) (fun r3 => (if r3 = true then some (20, p0) else if inr_ p1 p0.cell.length then some (0, { p0 with cell := p0.cell.set p1.toNat (⟨p2⟩ : T_atomic_Int64) }) else none))
set_option maxRecDepth 100000 in
set_option maxHeartbeats 4000000 in
theorem cells_Shared_Store_ok {z w : World} {L : List HProp} {p0 : T_cells_Shared} {p1 : Int} {p2 : Int} {B0 : Nat} {ca1 : Option Addr} {cc2 : Nat} {r0 : Int} {q0 : T_cells_Shared} (H : cells_Shared_Store p0 p1 p2 = some (r0, q0)) (h : Fit z (sepL (ob110 B0 p0 ca1 cc2 :: ro107 ca1 cc2 p0.cell :: L)) w)  :
    Calls Try.prog 74 #[pA B0 0, vI p1, vI p2] w fun e w => ∃ caq0_1 : Option Addr, ∃ ccq0_2 : Nat, e = .returned (vI r0) ∧ Fit z (sepL (ob110 B0 q0 caq0_1 ccq0_2 :: ro107 caq0_1 ccq0_2 q0.cell :: L)) w := by
 unfold cells_Shared_Store at H
 refine enter Try.func74 rfl 18 rfl rfl [(0, pA B0 0), (1, vI p1), (2, vI p2)] ⟨rfl, rfl, rfl, trivial⟩ ?_
 intro j a hr
 refine sr ?_
 refine ov hr (vI 0) (by kernel_rfl) ?_; clear hr a; intro a hr
 refine ln ?_
 refine wp_seq ?_
 refine sr ?_
 replace H := bd1 H; obtain ⟨r3, e4, H⟩ := H
 refine ovs [7, 8] [pA B0 0, vI p1] hr ⟨rfl, rfl⟩ (by kernel_rfl) ?_; clear hr a; intro a hr
 have hc := cells_Shared_outside_ok (H := e4) (h := h)
 refine op_call (wn rfl) rfl rfl hr (f := 103) (args := #[pA B0 0, vI p1]) (by kernel_rfl) hc ?_; clear hc h
 rintro _ w ⟨rfl, h⟩; refine ⟨_, rfl, ?_⟩
 clear hr a; intro a hr
 refine ln ?_
 by_cases c5 : r3 = true
 ·
  replace H := ifT c5 H
  refine cond_tt hr (b := r3) (c5) ?_
  refine sr ?_
  refine ov hr (vI 20) (by kernel_rfl) ?_; clear hr a; intro a hr
  refine ln ?_
  refine wp_ret ?_
  refine then_ret ?_
  refine end_ret1 (v := vI 20) rfl hr (by kernel_rfl) ?_
  replace H := ej2 H; obtain ⟨rfl, rfl⟩ := H
  exact ⟨ca1, cc2, rfl, h⟩
 ·
  replace H := ifF c5 H
  refine cond_ff hr (b := r3) (bF c5) ?_
  refine wp_skip ?_
  refine then_normal ?_
  refine sr ?_
  refine ovs [10, 11, 12] [pA B0 0, pA B0 0, pA B0 5] hr ⟨rfl, rfl⟩ (by kernel_rfl) ?_; clear hr a; intro a hr
  refine ld (wn rfl) hr (.slice ca1 p0.cell.length cc2) (h.cell 5 rfl) ?_; clear hr a; intro a hr
  replace H := gd H; obtain ⟨c6, H⟩ := H
  refine ov hr (vI p1) (by kernel_rfl) ?_; clear hr a; intro a hr
  refine opv (wn rfl) hr (pA (blk ca1) (p1.toNat * 1)) (ri_row (k := .i64) (E := 107) rfl (by kernel_rfl) (by kernel_rfl) (by kernel_rfl) (by kernel_rfl) (h.pick 1) c6) ?_; clear hr a; intro a hr
  refine ov hr (vI p2) (by kernel_rfl) ?_; clear hr a; intro a hr
  replace h : Fit z (sepL (ro107 ca1 cc2 p0.cell :: ob110 B0 p0 ca1 cc2 :: L)) _ := h.sel 2 [1, 0] (by kernel_rfl) (by kernel_rfl)
  refine op_set_row (wn rfl) rfl rfl hr enc_T_atomic_Int64_ok h (i := p1.toNat) (q := 0) (vI p2) (.tuple #[]) (x := (at_ p0.cell p1.toNat)) (y := (⟨p2⟩ : T_atomic_Int64)) (at_ok c6) rfl rfl (by kernel_rfl) (fun hc hz => a_store hc hz) ?_; clear h hr a; intro w a h hr
  refine wpList_nil ?_
  replace h : Fit z (sepL (rowOf 107 1 enc_T_atomic_Int64 (.slice ca1 p0.cell.length cc2) (p0.cell.set p1.toNat (⟨p2⟩ : T_atomic_Int64)) :: ob110 B0 p0 ca1 cc2 :: L)) _ := h
  refine then_normal ?_
  refine sr ?_
  refine ov hr (vI 0) (by kernel_rfl) ?_; clear hr a; intro a hr
  refine ln ?_
  refine wp_ret ?_
  refine end_ret1 (v := vI 0) rfl hr (by kernel_rfl) ?_
  have hn6 := h.row_n
  replace h : Fit z (sepL (ro107 ca1 cc2 (p0.cell.set p1.toNat (⟨p2⟩ : T_atomic_Int64)) :: pts B0 (.cells #[vI p0.ledger_size, vI p0.ledger_mark, .int .i32 p0.lock_mu_state, .int .u32 p0.lock_mu_sema, vI p0.given_v, .slice ca1 ((p0.cell.set p1.toNat (⟨p2⟩ : T_atomic_Int64)).length) cc2] 110) :: L)) w := (congrArg (fun q_ : Nat => Fit z (sepL (rowOf 107 1 enc_T_atomic_Int64 (.slice ca1 q_ cc2) (p0.cell.set p1.toNat (⟨p2⟩ : T_atomic_Int64)) :: pts B0 (.cells #[vI p0.ledger_size, vI p0.ledger_mark, .int .i32 p0.lock_mu_state, .int .u32 p0.lock_mu_sema, vI p0.given_v, .slice ca1 q_ cc2] 110) :: L)) w) h.row_n).mp h
  replace h : Fit z (sepL (pts B0 (.cells #[vI p0.ledger_size, vI p0.ledger_mark, .int .i32 p0.lock_mu_state, .int .u32 p0.lock_mu_sema, vI p0.given_v, .slice ca1 ((p0.cell.set p1.toNat (⟨p2⟩ : T_atomic_Int64)).length) cc2] 110) :: ro107 ca1 cc2 (p0.cell.set p1.toNat (⟨p2⟩ : T_atomic_Int64)) :: L)) _ := h.sel 2 [1, 0] (by kernel_rfl) (by kernel_rfl)
  replace H := ej2 H; obtain ⟨rfl, rfl⟩ := H
  exact ⟨ca1, cc2, rfl, h⟩

def plunderlaw2_fresh_iface_l2 (K : Nat) (p2 : List Int) (r22 : Int) (g12 : Int) (g13 : Int) : Nat → T_cells_Shared → Int → Option ((T_cells_Shared × Int) ⊕ ((T_cells_Shared × Int) ⊕ (Bool × T_cells_Shared)))
  | 0, _, _ => none
  | k2 + 1, S38, g41 => (if g41 < (wi (r22 + (at_ p2 g13.toNat))) then ob2 (cells_Shared_Load S38 g41) (fun r43 r44 => ob2 (cells_Shared_Store S38 g41 (wi ((7 : Int) + (wi ((3 : Int) * g41))))) (fun r46 S47 => (if r43 = (0 : Int) then (if r44 = (0 : Int) then (if r46 = (0 : Int) then (plunderlaw2_fresh_iface_l2 K p2 r22 g12 g13 k2 S47 (wi (g41 + (1 : Int)))) else some (.inr (.inr (false, S47)))) else some (.inr (.inr (false, S47)))) else some (.inr (.inr (false, S47)))))) else some (.inl (S38, wi (g12 + (at_ p2 g13.toNat)))))
def plunderlaw2_fresh_iface_l1 (K : Nat) (p1 : Int) (p2 : List Int) : Nat → T_cells_Shared → Int → Int → Option ((T_cells_Shared × Int) ⊕ (Bool × T_cells_Shared))
  | 0, _, _, _ => none
  | k1 + 1, S9, g12, g13 => (if g13 < ((p2.length : Nat) : Int) then jn2 (if inr_ g13 p2.length then ob3 (cells_Shared_Reserve S9 (at_ p2 g13.toNat)) (fun r22 r23 S24 => (if (at_ p2 g13.toNat) < (1 : Int) then (if r23 = (0 : Int) then some (.inr (.inr (false, S24))) else (if r22 = (0 : Int) then some (.inl (S24, g12)) else some (.inr (.inr (false, S24))))) else (if (at_ p2 g13.toNat) > (wi (p1 - g12)) then (if r23 = (0 : Int) then some (.inr (.inr (false, S24))) else (if r22 = (0 : Int) then some (.inl (S24, g12)) else some (.inr (.inr (false, S24))))) else jn0 ((if r23 = (0 : Int) then (if r22 = g12 then some (.inl ()) else some (.inr (.inr (.inr (false, S24))))) else some (.inr (.inr (.inr (false, S24)))))) ((plunderlaw2_fresh_iface_l2 K p2 r22 g12 g13 K S24 r22))))) else none) (fun S15 g18 => (plunderlaw2_fresh_iface_l1 K p1 p2 k1 S15 g18 (wi (g13 + (1 : Int))))) else some (.inl (S9, g12)))
def plunderlaw2_fresh_iface_l3 (K : Nat) (S3 : T_cells_Shared) (g6 : Int) : Nat → Int → Option ((Unit) ⊕ (Bool × T_cells_Shared))
  | 0, _ => none
  | k3 + 1, g56 => (if g56 < g6 then ob2 (cells_Shared_Load S3 g56) (fun r58 r59 => (if r59 = (0 : Int) then (if r58 = (wi ((7 : Int) + (wi ((3 : Int) * g56)))) then (plunderlaw2_fresh_iface_l3 K S3 g6 k3 (wi (g56 + (1 : Int)))) else some (.inr (false, S3))) else some (.inr (false, S3)))) else some (.inl ()))
/-- plunder/plunderlaw2.fresh -/
def plunderlaw2_fresh_iface (K : Nat) (p0 : T_cells_Shared) (p1 : Int) (p2 : List Int) : Option (Bool × T_cells_Shared) :=
  jn2 ((plunderlaw2_fresh_iface_l1 K p1 p2 K p0 0 0)) (fun S3 g6 => jn0 ((plunderlaw2_fresh_iface_l3 K S3 g6 K 0)) (ob2 (cells_Shared_Load S3 (-1)) (fun r63 r64 => ob2 (cells_Shared_Load S3 g6) (fun r66 r67 => (if r67 = (0 : Int) then some (false, S3) else some (r64 != (0 : Int), S3))))))
set_option maxRecDepth 100000 in
set_option maxHeartbeats 4000000 in
theorem plunderlaw2_fresh_iface_ok {z w : World} {L : List HProp} {K : Nat} {p0 : T_cells_Shared} {p1 : Int} {p2 : List Int} {B0 : Nat} {ca1 : Option Addr} {cc2 : Nat} {va2 : Option Addr} {vc2 : Nat} {r0 : Bool} {q0 : T_cells_Shared} (H : plunderlaw2_fresh_iface K p0 p1 p2 = some (r0, q0)) (h : Fit z (sepL (ob110 B0 p0 ca1 cc2 :: ro107 ca1 cc2 p0.cell :: L)) w) (hv2 : RdRow L 1 encZ_i64 va2 p2) :
    Calls Try.prog 35 #[.iface 51 (pA B0 0), vI p1, .slice va2 p2.length vc2] w fun e w => ∃ caq0_1 : Option Addr, ∃ ccq0_2 : Nat, e = .returned (vB r0) ∧ Fit z (sepL (ob110 B0 q0 caq0_1 ccq0_2 :: ro107 caq0_1 ccq0_2 q0.cell :: L)) w := by
 unfold plunderlaw2_fresh_iface at H
 refine enter Try.func35 rfl 131 rfl rfl [(0, .iface 51 (pA B0 0)), (1, vI p1), (2, .slice va2 p2.length vc2)] ⟨rfl, rfl, rfl, trivial⟩ ?_
 intro j a hr
 refine sr ?_
 refine ov hr (vB false) (by kernel_rfl) ?_; clear hr a; intro a hr
 refine ln ?_
 refine sr ?_
 refine ov hr (vI 0) (by kernel_rfl) ?_; clear hr a; intro a hr
 refine ln ?_
 replace H := jd2 H; obtain ⟨o8, H, hK7⟩ := H
 refine cut_rule (β := Unit) (fun _ a w => ∃ ca4 : Option Addr, ∃ cc5 : Nat, ∃ S3 : T_cells_Shared, ∃ g6 : Int, .inl (S3, g6) = o8 ∧ ∃ j, Rep 131 (lk [(0, .iface 51 (pA B0 0)), (7, vI g6)] j) a ∧ Fit z (sepL (ob110 B0 S3 ca4 cc5 :: ro107 ca4 cc5 S3.cell :: L)) w) ?_ ?_
 ·
  refine sr ?_
  refine ov hr (vI 0) (by kernel_rfl) ?_; clear hr a; intro a hr
  refine ln ?_
  refine wp_block ?_
  replace hr := hr.fold2 [(0, .iface 51 (pA B0 0)), (1, vI p1), (2, .slice va2 p2.length vc2), (7, vI 0), (8, vI 0)] (by kernel_rfl); obtain ⟨j, hr⟩ := hr
  refine loop_rule (β := Nat) id (fun m a w => ∃ ca10 : Option Addr, ∃ cc11 : Nat, ∃ S9 : T_cells_Shared, ∃ g12 : Int, ∃ g13 : Int, (plunderlaw2_fresh_iface_l1 K p1 p2 m S9 g12 g13) = some o8 ∧ ∃ j, Rep 131 (lk [(0, .iface 51 (pA B0 0)), (1, vI p1), (2, .slice va2 p2.length vc2), (7, vI g12), (8, vI g13)] j) a ∧ Fit z (sepL (ob110 B0 S9 ca10 cc11 :: ro107 ca10 cc11 S9.cell :: L)) w) K ⟨ca1, cc2, p0, 0, 0, H, j, hr, h⟩ ?_
  clear h hr a H; rintro k1 a w ⟨ca10, cc11, S9, g12, g13, H, j, hr, h⟩
  cases k1 with
  | zero => exact absurd H (by simp [plunderlaw2_fresh_iface_l1])
  | succ k1 =>
   rw [plunderlaw2_fresh_iface_l1] at H
   refine wp_seq ?_
   refine sr ?_
   refine ovs [23, 24, 25, 26] [vI g13, .slice va2 p2.length vc2, vI ((p2.length : Nat) : Int), vB (decide (g13 < ((p2.length : Nat) : Int)))] hr ⟨rfl, rfl⟩ (by kernel_rfl) ?_; clear hr a; intro a hr
   refine ln ?_
   by_cases c14 : g13 < ((p2.length : Nat) : Int)
   ·
    replace H := ifT c14 H
    refine cond_tt hr (b := (decide (g13 < ((p2.length : Nat) : Int)))) (decide_eq_true c14) ?_
    refine wp_skip ?_
    refine then_normal ?_
    replace H := jd2 H; obtain ⟨o20, H, hK19⟩ := H
    refine cut_rule (β := Unit) (fun _ a w => ∃ ca16 : Option Addr, ∃ cc17 : Nat, ∃ S15 : T_cells_Shared, ∃ g18 : Int, .inl (S15, g18) = o20 ∧ ∃ j, Rep 131 (lk [(0, .iface 51 (pA B0 0)), (1, vI p1), (2, .slice va2 p2.length vc2), (7, vI g18), (8, vI g13)] j) a ∧ Fit z (sepL (ob110 B0 S15 ca16 cc17 :: ro107 ca16 cc17 S15.cell :: L)) w) ?_ ?_
    ·
     refine wp_block ?_
     refine sr ?_
     replace H := gd H; obtain ⟨c21, H⟩ := H
     refine ovs [29, 30] [.slice va2 p2.length vc2, vI g13] hr ⟨rfl, rfl⟩ (by kernel_rfl) ?_; clear hr a; intro a hr
     refine opv (wn rfl) hr (pA (blk va2) (offs va2 + g13.toNat * 1)) (ri_rd (k := .i64) (E := 3) (cc := vc2) rfl (by kernel_rfl) (by kernel_rfl) rfl (by kernel_rfl) (by kernel_rfl) hv2 c21) ?_; clear hr a; intro a hr
     refine ld (wn rfl) hr (vI (at_ p2 g13.toNat)) (hv2.cell c21 (h.dn 2) 0 rfl) ?_; clear hr a; intro a hr
     refine ov hr (vI (at_ p2 g13.toNat)) (by kernel_rfl) ?_; clear hr a; intro a hr
     refine ln ?_
     refine sr ?_
     replace H := bd3 H; obtain ⟨r22, r23, S24, e25, H⟩ := H
     refine ovs [34, 35] [.iface 51 (pA B0 0), vI (at_ p2 g13.toNat)] hr ⟨rfl, rfl⟩ (by kernel_rfl) ?_; clear hr a; intro a hr
     have hc := cells_Shared_Reserve_ok (H := e25) (h := h)
     refine op_call (wn rfl) rfl rfl hr (f := 77) (args := #[pA B0 0, vI (at_ p2 g13.toNat)]) (by kernel_rfl) hc ?_; clear hc h
     rintro _ w ⟨caq26, ccq27, rfl, h⟩; refine ⟨_, rfl, ?_⟩
     clear hr a; intro a hr
     refine ovs [33, 37, 38, 10, 11] [.tuple #[vI r22, vI r23], vI r22, vI r23, vI r22, vI r23] hr ⟨rfl, rfl⟩ (by kernel_rfl) ?_; clear hr a; intro a hr
     refine ln ?_
     refine wp_seq ?_
     refine sr ?_
     refine ovs [39, 40, 41] [vI (at_ p2 g13.toNat), vB (decide ((at_ p2 g13.toNat) < (1 : Int))), vB (decide ((at_ p2 g13.toNat) < (1 : Int)))] hr ⟨rfl, rfl⟩ (by kernel_rfl) ?_; clear hr a; intro a hr
     by_cases c28 : (at_ p2 g13.toNat) < (1 : Int)
     ·
      replace H := ifT c28 H
      refine offg (wgt hr (decide_eq_true c28)) hr ?_; clear hr a; intro a hr
      refine offg (wgt hr (decide_eq_true c28)) hr ?_; clear hr a; intro a hr
      refine offg (wgt hr (decide_eq_true c28)) hr ?_; clear hr a; intro a hr
      refine offg (wgt hr (decide_eq_true c28)) hr ?_; clear hr a; intro a hr
      refine offg (wgt hr (decide_eq_true c28)) hr ?_; clear hr a; intro a hr
      refine opv (wn rfl) hr (vB true) (rp_t (b := (decide ((at_ p2 g13.toNat) < (1 : Int)))) rfl (by kernel_rfl) (decide_eq_true c28) (by kernel_rfl)) ?_; clear hr a; intro a hr
      refine ln ?_
      refine cond_tt hr (b := true) rfl ?_
      refine wp_seq ?_
      refine sr ?_
      refine ovs [48, 49, 50] [vI r23, vB (r23 == (0 : Int)), vB (r23 == (0 : Int))] hr ⟨rfl, rfl⟩ (by kernel_rfl) ?_; clear hr a; intro a hr
      by_cases c29 : r23 = (0 : Int)
      ·
       replace H := ifT c29 H
       refine offg (wgt hr (beq_iff_eq.mpr c29)) hr ?_; clear hr a; intro a hr
       refine offg (wgt hr (beq_iff_eq.mpr c29)) hr ?_; clear hr a; intro a hr
       refine opv (wn rfl) hr (vB true) (rp_t (b := (r23 == (0 : Int))) rfl (by kernel_rfl) (beq_iff_eq.mpr c29) (by kernel_rfl)) ?_; clear hr a; intro a hr
       refine ln ?_
       refine cond_tt hr (b := true) rfl ?_
       refine sr ?_
       refine ov hr (vB false) (by kernel_rfl) ?_; clear hr a; intro a hr
       refine ln ?_
       refine wp_ret ?_
       refine then_ret ?_
       refine then_ret ?_
       refine blk_ret ?_
       refine then_ret ?_
       refine then_ret ?_
       refine blk_ret ?_
       refine then_ret ?_
       refine end_ret1 (v := vB false) rfl hr (by kernel_rfl) ?_
       replace H := jx2 H hK19
       replace H := jx2 H hK7
       replace H := ej2 H; obtain ⟨rfl, rfl⟩ := H
       exact ⟨caq26, ccq27, rfl, h⟩
      ·
       replace H := ifF c29 H
       refine opv (wgt hr (beq_eq_false_iff_ne.mpr c29)) hr (vI r22) (by kernel_rfl) ?_; clear hr a; intro a hr
       refine opv (wgt hr (beq_eq_false_iff_ne.mpr c29)) hr (vB (r22 != (0 : Int))) (by kernel_rfl) ?_; clear hr a; intro a hr
       refine opv (wn rfl) hr (vB (r22 != (0 : Int))) (rp_f (b := (r23 == (0 : Int))) rfl (by kernel_rfl) (beq_eq_false_iff_ne.mpr c29) (by kernel_rfl)) ?_; clear hr a; intro a hr
       refine ln ?_
       by_cases c30 : r22 = (0 : Int)
       ·
        replace H := ifT c30 H
        refine cond_ff hr (b := (r22 != (0 : Int))) (bne_eq_false_iff_eq.mpr c30) ?_
        refine wp_skip ?_
        refine then_normal ?_
        refine wp_exit ?_
        refine then_exit ?_
        refine blk_here ?_
        refine then_normal ?_
        replace hr := hr.fold2 [(0, .iface 51 (pA B0 0)), (1, vI p1), (2, .slice va2 p2.length vc2), (7, vI g12), (8, vI g13)] (by kernel_rfl); obtain ⟨j, hr⟩ := hr
        exact ⟨(), caq26, ccq27, S24, g12, sinj H, j, hr, h⟩
       ·
        replace H := ifF c30 H
        refine cond_tt hr (b := (r22 != (0 : Int))) (bne_iff_ne.mpr c30) ?_
        refine sr ?_
        refine ov hr (vB false) (by kernel_rfl) ?_; clear hr a; intro a hr
        refine ln ?_
        refine wp_ret ?_
        refine then_ret ?_
        refine then_ret ?_
        refine blk_ret ?_
        refine then_ret ?_
        refine then_ret ?_
        refine blk_ret ?_
        refine then_ret ?_
        refine end_ret1 (v := vB false) rfl hr (by kernel_rfl) ?_
        replace H := jx2 H hK19
        replace H := jx2 H hK7
        replace H := ej2 H; obtain ⟨rfl, rfl⟩ := H
        exact ⟨caq26, ccq27, rfl, h⟩
     ·
      replace H := ifF c28 H
      refine opv (wgt hr (decide_eq_false c28)) hr (vI (at_ p2 g13.toNat)) (by kernel_rfl) ?_; clear hr a; intro a hr
      refine opv (wgt hr (decide_eq_false c28)) hr (vI p1) (by kernel_rfl) ?_; clear hr a; intro a hr
      refine opv (wgt hr (decide_eq_false c28)) hr (vI g12) (by kernel_rfl) ?_; clear hr a; intro a hr
      refine opv (wgt hr (decide_eq_false c28)) hr (vI (wi (p1 - g12))) (by kernel_rfl) ?_; clear hr a; intro a hr
      refine opv (wgt hr (decide_eq_false c28)) hr (vB (decide ((at_ p2 g13.toNat) > (wi (p1 - g12))))) (by kernel_rfl) ?_; clear hr a; intro a hr
      refine opv (wn rfl) hr (vB (decide ((at_ p2 g13.toNat) > (wi (p1 - g12))))) (rp_f (b := (decide ((at_ p2 g13.toNat) < (1 : Int)))) rfl (by kernel_rfl) (decide_eq_false c28) (by kernel_rfl)) ?_; clear hr a; intro a hr
      refine ln ?_
      by_cases c31 : (at_ p2 g13.toNat) > (wi (p1 - g12))
      ·
       replace H := ifT c31 H
       refine cond_tt hr (b := (decide ((at_ p2 g13.toNat) > (wi (p1 - g12))))) (decide_eq_true c31) ?_
       refine wp_seq ?_
       refine sr ?_
       refine ovs [48, 49, 50] [vI r23, vB (r23 == (0 : Int)), vB (r23 == (0 : Int))] hr ⟨rfl, rfl⟩ (by kernel_rfl) ?_; clear hr a; intro a hr
       by_cases c32 : r23 = (0 : Int)
       ·
        replace H := ifT c32 H
        refine offg (wgt hr (beq_iff_eq.mpr c32)) hr ?_; clear hr a; intro a hr
        refine offg (wgt hr (beq_iff_eq.mpr c32)) hr ?_; clear hr a; intro a hr
        refine opv (wn rfl) hr (vB true) (rp_t (b := (r23 == (0 : Int))) rfl (by kernel_rfl) (beq_iff_eq.mpr c32) (by kernel_rfl)) ?_; clear hr a; intro a hr
        refine ln ?_
        refine cond_tt hr (b := true) rfl ?_
        refine sr ?_
        refine ov hr (vB false) (by kernel_rfl) ?_; clear hr a; intro a hr
        refine ln ?_
        refine wp_ret ?_
        refine then_ret ?_
        refine then_ret ?_
        refine blk_ret ?_
        refine then_ret ?_
        refine then_ret ?_
        refine blk_ret ?_
        refine then_ret ?_
        refine end_ret1 (v := vB false) rfl hr (by kernel_rfl) ?_
        replace H := jx2 H hK19
        replace H := jx2 H hK7
        replace H := ej2 H; obtain ⟨rfl, rfl⟩ := H
        exact ⟨caq26, ccq27, rfl, h⟩
       ·
        replace H := ifF c32 H
        refine opv (wgt hr (beq_eq_false_iff_ne.mpr c32)) hr (vI r22) (by kernel_rfl) ?_; clear hr a; intro a hr
        refine opv (wgt hr (beq_eq_false_iff_ne.mpr c32)) hr (vB (r22 != (0 : Int))) (by kernel_rfl) ?_; clear hr a; intro a hr
        refine opv (wn rfl) hr (vB (r22 != (0 : Int))) (rp_f (b := (r23 == (0 : Int))) rfl (by kernel_rfl) (beq_eq_false_iff_ne.mpr c32) (by kernel_rfl)) ?_; clear hr a; intro a hr
        refine ln ?_
        by_cases c33 : r22 = (0 : Int)
        ·
         replace H := ifT c33 H
         refine cond_ff hr (b := (r22 != (0 : Int))) (bne_eq_false_iff_eq.mpr c33) ?_
         refine wp_skip ?_
         refine then_normal ?_
         refine wp_exit ?_
         refine then_exit ?_
         refine blk_here ?_
         refine then_normal ?_
         replace hr := hr.fold2 [(0, .iface 51 (pA B0 0)), (1, vI p1), (2, .slice va2 p2.length vc2), (7, vI g12), (8, vI g13)] (by kernel_rfl); obtain ⟨j, hr⟩ := hr
         exact ⟨(), caq26, ccq27, S24, g12, sinj H, j, hr, h⟩
        ·
         replace H := ifF c33 H
         refine cond_tt hr (b := (r22 != (0 : Int))) (bne_iff_ne.mpr c33) ?_
         refine sr ?_
         refine ov hr (vB false) (by kernel_rfl) ?_; clear hr a; intro a hr
         refine ln ?_
         refine wp_ret ?_
         refine then_ret ?_
         refine then_ret ?_
         refine blk_ret ?_
         refine then_ret ?_
         refine then_ret ?_
         refine blk_ret ?_
         refine then_ret ?_
         refine end_ret1 (v := vB false) rfl hr (by kernel_rfl) ?_
         replace H := jx2 H hK19
         replace H := jx2 H hK7
         replace H := ej2 H; obtain ⟨rfl, rfl⟩ := H
         exact ⟨caq26, ccq27, rfl, h⟩
      ·
       replace H := ifF c31 H
       refine cond_ff hr (b := (decide ((at_ p2 g13.toNat) > (wi (p1 - g12))))) (decide_eq_false c31) ?_
       refine wp_skip ?_
       refine then_normal ?_
       replace H := jd0 H; obtain ⟨o35, H, hK34⟩ := H
       refine cut_rule (β := Unit) (fun _ a w => .inl () = o35 ∧ ∃ j, Rep 131 (lk [(0, .iface 51 (pA B0 0)), (1, vI p1), (2, .slice va2 p2.length vc2), (7, vI g12), (8, vI g13), (9, vI (at_ p2 g13.toNat)), (10, vI r22), (42, vI (at_ p2 g13.toNat)), (43, vI p1), (44, vI g12), (45, vI (wi (p1 - g12))), (46, vB (decide ((at_ p2 g13.toNat) > (wi (p1 - g12))))), (57, vI r22), (58, vI g12), (59, vB (r22 != g12))] j) a ∧ Fit z (sepL (ob110 B0 S24 caq26 ccq27 :: ro107 caq26 ccq27 S24.cell :: L)) w) ?_ ?_
       ·
        refine sr ?_
        refine ovs [54, 55, 56] [vI r23, vB (r23 != (0 : Int)), vB (r23 != (0 : Int))] hr ⟨rfl, rfl⟩ (by kernel_rfl) ?_; clear hr a; intro a hr
        by_cases c36 : r23 = (0 : Int)
        ·
         replace H := ifT c36 H
         refine opv (wgt hr (bne_eq_false_iff_eq.mpr c36)) hr (vI r22) (by kernel_rfl) ?_; clear hr a; intro a hr
         refine opv (wgt hr (bne_eq_false_iff_eq.mpr c36)) hr (vI g12) (by kernel_rfl) ?_; clear hr a; intro a hr
         refine opv (wgt hr (bne_eq_false_iff_eq.mpr c36)) hr (vB (r22 != g12)) (by kernel_rfl) ?_; clear hr a; intro a hr
         refine opv (wn rfl) hr (vB (r22 != g12)) (rp_f (b := (r23 != (0 : Int))) rfl (by kernel_rfl) (bne_eq_false_iff_eq.mpr c36) (by kernel_rfl)) ?_; clear hr a; intro a hr
         refine ln ?_
         by_cases c37 : r22 = g12
         ·
          replace H := ifT c37 H
          refine cond_ff hr (b := (r22 != g12)) (bne_eq_false_iff_eq.mpr c37) ?_
          refine wp_skip ?_
          refine then_normal ?_
          replace hr := hr.fold2 [(0, .iface 51 (pA B0 0)), (1, vI p1), (2, .slice va2 p2.length vc2), (7, vI g12), (8, vI g13), (9, vI (at_ p2 g13.toNat)), (10, vI r22), (42, vI (at_ p2 g13.toNat)), (43, vI p1), (44, vI g12), (45, vI (wi (p1 - g12))), (46, vB (decide ((at_ p2 g13.toNat) > (wi (p1 - g12))))), (57, vI r22), (58, vI g12), (59, vB (r22 != g12))] (by kernel_rfl); obtain ⟨j, hr⟩ := hr
          exact ⟨(), sinj H, j, hr, h⟩
         ·
          replace H := ifF c37 H
          refine cond_tt hr (b := (r22 != g12)) (bne_iff_ne.mpr c37) ?_
          refine sr ?_
          refine ov hr (vB false) (by kernel_rfl) ?_; clear hr a; intro a hr
          refine ln ?_
          refine wp_ret ?_
          refine then_ret ?_
          refine blk_ret ?_
          refine then_ret ?_
          refine then_ret ?_
          refine blk_ret ?_
          refine then_ret ?_
          refine end_ret1 (v := vB false) rfl hr (by kernel_rfl) ?_
          replace H := jx0 H hK34
          replace H := jx2 H hK19
          replace H := jx2 H hK7
          replace H := ej2 H; obtain ⟨rfl, rfl⟩ := H
          exact ⟨caq26, ccq27, rfl, h⟩
        ·
         replace H := ifF c36 H
         refine offg (wgt hr (bne_iff_ne.mpr c36)) hr ?_; clear hr a; intro a hr
         refine offg (wgt hr (bne_iff_ne.mpr c36)) hr ?_; clear hr a; intro a hr
         refine offg (wgt hr (bne_iff_ne.mpr c36)) hr ?_; clear hr a; intro a hr
         refine opv (wn rfl) hr (vB true) (rp_t (b := (r23 != (0 : Int))) rfl (by kernel_rfl) (bne_iff_ne.mpr c36) (by kernel_rfl)) ?_; clear hr a; intro a hr
         refine ln ?_
         refine cond_tt hr (b := true) rfl ?_
         refine sr ?_
         refine ov hr (vB false) (by kernel_rfl) ?_; clear hr a; intro a hr
         refine ln ?_
         refine wp_ret ?_
         refine then_ret ?_
         refine blk_ret ?_
         refine then_ret ?_
         refine then_ret ?_
         refine blk_ret ?_
         refine then_ret ?_
         refine end_ret1 (v := vB false) rfl hr (by kernel_rfl) ?_
         replace H := jx0 H hK34
         replace H := jx2 H hK19
         replace H := jx2 H hK7
         replace H := ej2 H; obtain ⟨rfl, rfl⟩ := H
         exact ⟨caq26, ccq27, rfl, h⟩
       clear h hr a; rintro _ a w ⟨rfl, j, hr, h⟩
       replace H := jk0 hK34
       refine wp_seq ?_
       refine sr ?_
       refine ovs [61, 12] [vI r22, vI r22] hr ⟨rfl, rfl⟩ (by kernel_rfl) ?_; clear hr a; intro a hr
       refine ln ?_
       refine wp_block ?_
       replace hr := hr.fold2 [(0, .iface 51 (pA B0 0)), (1, vI p1), (2, .slice va2 p2.length vc2), (7, vI g12), (8, vI g13), (9, vI (at_ p2 g13.toNat)), (10, vI r22), (12, vI r22), (42, vI (at_ p2 g13.toNat)), (43, vI p1), (44, vI g12), (45, vI (wi (p1 - g12))), (46, vB (decide ((at_ p2 g13.toNat) > (wi (p1 - g12))))), (57, vI r22), (58, vI g12), (59, vB (r22 != g12))] (by kernel_rfl); obtain ⟨j, hr⟩ := hr
       refine loop_rule (β := Nat) id (fun m a w => ∃ ca39 : Option Addr, ∃ cc40 : Nat, ∃ S38 : T_cells_Shared, ∃ g41 : Int, (plunderlaw2_fresh_iface_l2 K p2 r22 g12 g13 m S38 g41) = some o20 ∧ ∃ j, Rep 131 (lk [(0, .iface 51 (pA B0 0)), (1, vI p1), (2, .slice va2 p2.length vc2), (7, vI g12), (8, vI g13), (9, vI (at_ p2 g13.toNat)), (10, vI r22), (12, vI g41), (42, vI (at_ p2 g13.toNat)), (43, vI p1), (44, vI g12), (45, vI (wi (p1 - g12))), (46, vB (decide ((at_ p2 g13.toNat) > (wi (p1 - g12))))), (57, vI r22), (58, vI g12), (59, vB (r22 != g12))] j) a ∧ Fit z (sepL (ob110 B0 S38 ca39 cc40 :: ro107 ca39 cc40 S38.cell :: L)) w) K ⟨caq26, ccq27, S24, r22, H, j, hr, h⟩ ?_
       clear h hr a H; rintro k2 a w ⟨ca39, cc40, S38, g41, H, j, hr, h⟩
       cases k2 with
       | zero => exact absurd H (by simp [plunderlaw2_fresh_iface_l2])
       | succ k2 =>
        rw [plunderlaw2_fresh_iface_l2] at H
        refine wp_seq ?_
        refine sr ?_
        refine ovs [62, 63, 64, 65, 66] [vI g41, vI r22, vI (at_ p2 g13.toNat), vI (wi (r22 + (at_ p2 g13.toNat))), vB (decide (g41 < (wi (r22 + (at_ p2 g13.toNat)))))] hr ⟨rfl, rfl⟩ (by kernel_rfl) ?_; clear hr a; intro a hr
        refine ln ?_
        by_cases c42 : g41 < (wi (r22 + (at_ p2 g13.toNat)))
        ·
         replace H := ifT c42 H
         refine cond_tt hr (b := (decide (g41 < (wi (r22 + (at_ p2 g13.toNat)))))) (decide_eq_true c42) ?_
         refine wp_skip ?_
         refine then_normal ?_
         refine wp_seq ?_
         refine wp_block ?_
         refine sr ?_
         replace H := bd2 H; obtain ⟨r43, r44, e45, H⟩ := H
         refine ovs [70, 71] [.iface 51 (pA B0 0), vI g41] hr ⟨rfl, rfl⟩ (by kernel_rfl) ?_; clear hr a; intro a hr
         have hc := cells_Shared_Load_ok (H := e45) (h := h)
         refine op_call (wn rfl) rfl rfl hr (f := 73) (args := #[pA B0 0, vI g41]) (by kernel_rfl) hc ?_; clear hc h
         rintro _ w ⟨rfl, h⟩; refine ⟨_, rfl, ?_⟩
         clear hr a; intro a hr
         refine ovs [69, 73, 74, 13, 14] [.tuple #[vI r43, vI r44], vI r43, vI r44, vI r43, vI r44] hr ⟨rfl, rfl⟩ (by kernel_rfl) ?_; clear hr a; intro a hr
         refine ln ?_
         refine sr ?_
         replace H := bd2 H; obtain ⟨r46, S47, e48, H⟩ := H
         refine ovs [75, 76, 77, 78, 79] [.iface 51 (pA B0 0), vI g41, vI g41, vI (wi ((3 : Int) * g41)), vI (wi ((7 : Int) + (wi ((3 : Int) * g41))))] hr ⟨rfl, rfl⟩ (by kernel_rfl) ?_; clear hr a; intro a hr
         have hc := cells_Shared_Store_ok (H := e48) (h := h)
         refine op_call (wn rfl) rfl rfl hr (f := 74) (args := #[pA B0 0, vI g41, vI (wi ((7 : Int) + (wi ((3 : Int) * g41))))]) (by kernel_rfl) hc ?_; clear hc h
         rintro _ w ⟨caq49, ccq50, rfl, h⟩; refine ⟨_, rfl, ?_⟩
         clear hr a; intro a hr
         refine ov hr (vI r46) (by kernel_rfl) ?_; clear hr a; intro a hr
         refine ln ?_
         refine sr ?_
         refine ovs [81, 82, 83] [vI r43, vB (r43 != (0 : Int)), vB (r43 != (0 : Int))] hr ⟨rfl, rfl⟩ (by kernel_rfl) ?_; clear hr a; intro a hr
         by_cases c51 : r43 = (0 : Int)
         ·
          replace H := ifT c51 H
          refine opv (wgt hr (bne_eq_false_iff_eq.mpr c51)) hr (vI r44) (by kernel_rfl) ?_; clear hr a; intro a hr
          refine opv (wgt hr (bne_eq_false_iff_eq.mpr c51)) hr (vB (r44 != (0 : Int))) (by kernel_rfl) ?_; clear hr a; intro a hr
          refine opv (wn rfl) hr (vB (r44 != (0 : Int))) (rp_f (b := (r43 != (0 : Int))) rfl (by kernel_rfl) (bne_eq_false_iff_eq.mpr c51) (by kernel_rfl)) ?_; clear hr a; intro a hr
          refine ov hr (vB (r44 != (0 : Int))) (by kernel_rfl) ?_; clear hr a; intro a hr
          by_cases c52 : r44 = (0 : Int)
          ·
           replace H := ifT c52 H
           refine opv (wgt hr (bne_eq_false_iff_eq.mpr c52)) hr (vI r46) (by kernel_rfl) ?_; clear hr a; intro a hr
           refine opv (wgt hr (bne_eq_false_iff_eq.mpr c52)) hr (vB (r46 != (0 : Int))) (by kernel_rfl) ?_; clear hr a; intro a hr
           refine opv (wn rfl) hr (vB (r46 != (0 : Int))) (rp_f (b := (r44 != (0 : Int))) rfl (by kernel_rfl) (bne_eq_false_iff_eq.mpr c52) (by kernel_rfl)) ?_; clear hr a; intro a hr
           refine ln ?_
           by_cases c53 : r46 = (0 : Int)
           ·
            replace H := ifT c53 H
            refine cond_ff hr (b := (r46 != (0 : Int))) (bne_eq_false_iff_eq.mpr c53) ?_
            refine wp_skip ?_
            refine blk_normal ?_
            refine then_normal ?_
            refine wp_region_lit ?_
            refine ovs [67, 68, 12] [vI g41, vI (wi (g41 + (1 : Int))), vI (wi (g41 + (1 : Int)))] hr ⟨rfl, rfl⟩ (by kernel_rfl) ?_; clear hr a; intro a hr
            refine ln ?_
            replace hr := hr.fold2 [(0, .iface 51 (pA B0 0)), (1, vI p1), (2, .slice va2 p2.length vc2), (7, vI g12), (8, vI g13), (9, vI (at_ p2 g13.toNat)), (10, vI r22), (12, vI (wi (g41 + (1 : Int)))), (42, vI (at_ p2 g13.toNat)), (43, vI p1), (44, vI g12), (45, vI (wi (p1 - g12))), (46, vB (decide ((at_ p2 g13.toNat) > (wi (p1 - g12))))), (57, vI r22), (58, vI g12), (59, vB (r22 != g12))] (by kernel_rfl); obtain ⟨j, hr⟩ := hr
            exact ⟨_, ⟨caq49, ccq50, S47, (wi (g41 + (1 : Int))), H, j, hr, h⟩, Nat.lt_succ_self _⟩
           ·
            replace H := ifF c53 H
            refine cond_tt hr (b := (r46 != (0 : Int))) (bne_iff_ne.mpr c53) ?_
            refine sr ?_
            refine ov hr (vB false) (by kernel_rfl) ?_; clear hr a; intro a hr
            refine ln ?_
            refine wp_ret ?_
            refine blk_ret ?_
            refine then_ret ?_
            refine then_ret ?_
            refine blk_ret ?_
            refine then_ret ?_
            refine blk_ret ?_
            refine then_ret ?_
            refine then_ret ?_
            refine blk_ret ?_
            refine then_ret ?_
            refine end_ret1 (v := vB false) rfl hr (by kernel_rfl) ?_
            replace H := jx2 H hK19
            replace H := jx2 H hK7
            replace H := ej2 H; obtain ⟨rfl, rfl⟩ := H
            exact ⟨caq49, ccq50, rfl, h⟩
          ·
           replace H := ifF c52 H
           refine offg (wgt hr (bne_iff_ne.mpr c52)) hr ?_; clear hr a; intro a hr
           refine offg (wgt hr (bne_iff_ne.mpr c52)) hr ?_; clear hr a; intro a hr
           refine opv (wn rfl) hr (vB true) (rp_t (b := (r44 != (0 : Int))) rfl (by kernel_rfl) (bne_iff_ne.mpr c52) (by kernel_rfl)) ?_; clear hr a; intro a hr
           refine ln ?_
           refine cond_tt hr (b := true) rfl ?_
           refine sr ?_
           refine ov hr (vB false) (by kernel_rfl) ?_; clear hr a; intro a hr
           refine ln ?_
           refine wp_ret ?_
           refine blk_ret ?_
           refine then_ret ?_
           refine then_ret ?_
           refine blk_ret ?_
           refine then_ret ?_
           refine blk_ret ?_
           refine then_ret ?_
           refine then_ret ?_
           refine blk_ret ?_
           refine then_ret ?_
           refine end_ret1 (v := vB false) rfl hr (by kernel_rfl) ?_
           replace H := jx2 H hK19
           replace H := jx2 H hK7
           replace H := ej2 H; obtain ⟨rfl, rfl⟩ := H
           exact ⟨caq49, ccq50, rfl, h⟩
         ·
          replace H := ifF c51 H
          refine offg (wgt hr (bne_iff_ne.mpr c51)) hr ?_; clear hr a; intro a hr
          refine offg (wgt hr (bne_iff_ne.mpr c51)) hr ?_; clear hr a; intro a hr
          refine opv (wn rfl) hr (vB true) (rp_t (b := (r43 != (0 : Int))) rfl (by kernel_rfl) (bne_iff_ne.mpr c51) (by kernel_rfl)) ?_; clear hr a; intro a hr
          refine ov hr (vB true) (by kernel_rfl) ?_; clear hr a; intro a hr
          refine offg (wgt hr (c := true) rfl) hr ?_; clear hr a; intro a hr
          refine offg (wgt hr (c := true) rfl) hr ?_; clear hr a; intro a hr
          refine ov hr (vB true) (by kernel_rfl) ?_; clear hr a; intro a hr
          refine ln ?_
          refine cond_tt hr (b := true) rfl ?_
          refine sr ?_
          refine ov hr (vB false) (by kernel_rfl) ?_; clear hr a; intro a hr
          refine ln ?_
          refine wp_ret ?_
          refine blk_ret ?_
          refine then_ret ?_
          refine then_ret ?_
          refine blk_ret ?_
          refine then_ret ?_
          refine blk_ret ?_
          refine then_ret ?_
          refine then_ret ?_
          refine blk_ret ?_
          refine then_ret ?_
          refine end_ret1 (v := vB false) rfl hr (by kernel_rfl) ?_
          replace H := jx2 H hK19
          replace H := jx2 H hK7
          replace H := ej2 H; obtain ⟨rfl, rfl⟩ := H
          exact ⟨caq49, ccq50, rfl, h⟩
        ·
         replace H := ifF c42 H
         refine cond_ff hr (b := (decide (g41 < (wi (r22 + (at_ p2 g13.toNat)))))) (decide_eq_false c42) ?_
         refine wp_exit ?_
         refine then_exit ?_
         refine then_exit ?_
         refine blk_here ?_
         refine then_normal ?_
         refine wp_region_lit ?_
         refine ovs [91, 92, 93, 7] [vI g12, vI (at_ p2 g13.toNat), vI (wi (g12 + (at_ p2 g13.toNat))), vI (wi (g12 + (at_ p2 g13.toNat)))] hr ⟨rfl, rfl⟩ (by kernel_rfl) ?_; clear hr a; intro a hr
         refine wpList_nil ?_
         refine blk_normal ?_
         refine then_normal ?_
         replace hr := hr.fold2 [(0, .iface 51 (pA B0 0)), (1, vI p1), (2, .slice va2 p2.length vc2), (7, vI (wi (g12 + (at_ p2 g13.toNat)))), (8, vI g13)] (by kernel_rfl); obtain ⟨j, hr⟩ := hr
         exact ⟨(), ca39, cc40, S38, (wi (g12 + (at_ p2 g13.toNat))), sinj H, j, hr, h⟩
    clear h hr a; rintro _ a w ⟨ca16, cc17, S15, g18, rfl, j, hr, h⟩
    replace H := jk2 hK19
    refine wp_region_lit ?_
    refine ovs [27, 28, 8] [vI g13, vI (wi (g13 + (1 : Int))), vI (wi (g13 + (1 : Int)))] hr ⟨rfl, rfl⟩ (by kernel_rfl) ?_; clear hr a; intro a hr
    refine ln ?_
    replace hr := hr.fold2 [(0, .iface 51 (pA B0 0)), (1, vI p1), (2, .slice va2 p2.length vc2), (7, vI g18), (8, vI (wi (g13 + (1 : Int))))] (by kernel_rfl); obtain ⟨j, hr⟩ := hr
    exact ⟨_, ⟨ca16, cc17, S15, g18, (wi (g13 + (1 : Int))), H, j, hr, h⟩, Nat.lt_succ_self _⟩
   ·
    replace H := ifF c14 H
    refine cond_ff hr (b := (decide (g13 < ((p2.length : Nat) : Int)))) (decide_eq_false c14) ?_
    refine wp_exit ?_
    refine then_exit ?_
    refine then_exit ?_
    refine blk_here ?_
    refine then_normal ?_
    replace hr := hr.fold2 [(0, .iface 51 (pA B0 0)), (7, vI g12)] (by kernel_rfl); obtain ⟨j, hr⟩ := hr
    exact ⟨(), ca10, cc11, S9, g12, sinj H, j, hr, h⟩
 clear h hr a; rintro _ a w ⟨ca4, cc5, S3, g6, rfl, j, hr, h⟩
 replace H := jk2 hK7
 replace H := jd0 H; obtain ⟨o55, H, hK54⟩ := H
 refine cut_rule (β := Unit) (fun _ a w => .inl () = o55 ∧ ∃ j, Rep 131 (lk [(0, .iface 51 (pA B0 0)), (7, vI g6)] j) a ∧ Fit z (sepL (ob110 B0 S3 ca4 cc5 :: ro107 ca4 cc5 S3.cell :: L)) w) ?_ ?_
 ·
  refine sr ?_
  refine ov hr (vI 0) (by kernel_rfl) ?_; clear hr a; intro a hr
  refine ln ?_
  refine wp_block ?_
  replace hr := hr.fold2 [(0, .iface 51 (pA B0 0)), (7, vI g6), (16, vI 0)] (by kernel_rfl); obtain ⟨j, hr⟩ := hr
  refine loop_rule (β := Nat) id (fun m a w => ∃ g56 : Int, (plunderlaw2_fresh_iface_l3 K S3 g6 m g56) = some o55 ∧ ∃ j, Rep 131 (lk [(0, .iface 51 (pA B0 0)), (7, vI g6), (16, vI g56)] j) a ∧ Fit z (sepL (ob110 B0 S3 ca4 cc5 :: ro107 ca4 cc5 S3.cell :: L)) w) K ⟨0, H, j, hr, h⟩ ?_
  clear h hr a H; rintro k3 a w ⟨g56, H, j, hr, h⟩
  cases k3 with
  | zero => exact absurd H (by simp [plunderlaw2_fresh_iface_l3])
  | succ k3 =>
   rw [plunderlaw2_fresh_iface_l3] at H
   refine wp_seq ?_
   refine sr ?_
   refine ovs [94, 95, 96] [vI g56, vI g6, vB (decide (g56 < g6))] hr ⟨rfl, rfl⟩ (by kernel_rfl) ?_; clear hr a; intro a hr
   refine ln ?_
   by_cases c57 : g56 < g6
   ·
    replace H := ifT c57 H
    refine cond_tt hr (b := (decide (g56 < g6))) (decide_eq_true c57) ?_
    refine wp_skip ?_
    refine then_normal ?_
    refine wp_seq ?_
    refine wp_block ?_
    refine sr ?_
    replace H := bd2 H; obtain ⟨r58, r59, e60, H⟩ := H
    refine ovs [100, 101] [.iface 51 (pA B0 0), vI g56] hr ⟨rfl, rfl⟩ (by kernel_rfl) ?_; clear hr a; intro a hr
    have hc := cells_Shared_Load_ok (H := e60) (h := h)
    refine op_call (wn rfl) rfl rfl hr (f := 73) (args := #[pA B0 0, vI g56]) (by kernel_rfl) hc ?_; clear hc h
    rintro _ w ⟨rfl, h⟩; refine ⟨_, rfl, ?_⟩
    clear hr a; intro a hr
    refine ovs [99, 103, 104, 17, 18] [.tuple #[vI r58, vI r59], vI r58, vI r59, vI r58, vI r59] hr ⟨rfl, rfl⟩ (by kernel_rfl) ?_; clear hr a; intro a hr
    refine ln ?_
    refine sr ?_
    refine ovs [105, 106, 107] [vI r59, vB (r59 != (0 : Int)), vB (r59 != (0 : Int))] hr ⟨rfl, rfl⟩ (by kernel_rfl) ?_; clear hr a; intro a hr
    by_cases c61 : r59 = (0 : Int)
    ·
     replace H := ifT c61 H
     refine opv (wgt hr (bne_eq_false_iff_eq.mpr c61)) hr (vI r58) (by kernel_rfl) ?_; clear hr a; intro a hr
     refine opv (wgt hr (bne_eq_false_iff_eq.mpr c61)) hr (vI g56) (by kernel_rfl) ?_; clear hr a; intro a hr
     refine opv (wgt hr (bne_eq_false_iff_eq.mpr c61)) hr (vI (wi ((3 : Int) * g56))) (by kernel_rfl) ?_; clear hr a; intro a hr
     refine opv (wgt hr (bne_eq_false_iff_eq.mpr c61)) hr (vI (wi ((7 : Int) + (wi ((3 : Int) * g56))))) (by kernel_rfl) ?_; clear hr a; intro a hr
     refine opv (wgt hr (bne_eq_false_iff_eq.mpr c61)) hr (vB (r58 != (wi ((7 : Int) + (wi ((3 : Int) * g56)))))) (by kernel_rfl) ?_; clear hr a; intro a hr
     refine opv (wn rfl) hr (vB (r58 != (wi ((7 : Int) + (wi ((3 : Int) * g56)))))) (rp_f (b := (r59 != (0 : Int))) rfl (by kernel_rfl) (bne_eq_false_iff_eq.mpr c61) (by kernel_rfl)) ?_; clear hr a; intro a hr
     refine ln ?_
     by_cases c62 : r58 = (wi ((7 : Int) + (wi ((3 : Int) * g56))))
     ·
      replace H := ifT c62 H
      refine cond_ff hr (b := (r58 != (wi ((7 : Int) + (wi ((3 : Int) * g56)))))) (bne_eq_false_iff_eq.mpr c62) ?_
      refine wp_skip ?_
      refine blk_normal ?_
      refine then_normal ?_
      refine wp_region_lit ?_
      refine ovs [97, 98, 16] [vI g56, vI (wi (g56 + (1 : Int))), vI (wi (g56 + (1 : Int)))] hr ⟨rfl, rfl⟩ (by kernel_rfl) ?_; clear hr a; intro a hr
      refine ln ?_
      replace hr := hr.fold2 [(0, .iface 51 (pA B0 0)), (7, vI g6), (16, vI (wi (g56 + (1 : Int))))] (by kernel_rfl); obtain ⟨j, hr⟩ := hr
      exact ⟨_, ⟨(wi (g56 + (1 : Int))), H, j, hr, h⟩, Nat.lt_succ_self _⟩
     ·
      replace H := ifF c62 H
      refine cond_tt hr (b := (r58 != (wi ((7 : Int) + (wi ((3 : Int) * g56)))))) (bne_iff_ne.mpr c62) ?_
      refine sr ?_
      refine ov hr (vB false) (by kernel_rfl) ?_; clear hr a; intro a hr
      refine ln ?_
      refine wp_ret ?_
      refine blk_ret ?_
      refine then_ret ?_
      refine then_ret ?_
      refine blk_ret ?_
      refine then_ret ?_
      refine end_ret1 (v := vB false) rfl hr (by kernel_rfl) ?_
      replace H := jx0 H hK54
      replace H := ej2 H; obtain ⟨rfl, rfl⟩ := H
      exact ⟨ca4, cc5, rfl, h⟩
    ·
     replace H := ifF c61 H
     refine offg (wgt hr (bne_iff_ne.mpr c61)) hr ?_; clear hr a; intro a hr
     refine offg (wgt hr (bne_iff_ne.mpr c61)) hr ?_; clear hr a; intro a hr
     refine offg (wgt hr (bne_iff_ne.mpr c61)) hr ?_; clear hr a; intro a hr
     refine offg (wgt hr (bne_iff_ne.mpr c61)) hr ?_; clear hr a; intro a hr
     refine offg (wgt hr (bne_iff_ne.mpr c61)) hr ?_; clear hr a; intro a hr
     refine opv (wn rfl) hr (vB true) (rp_t (b := (r59 != (0 : Int))) rfl (by kernel_rfl) (bne_iff_ne.mpr c61) (by kernel_rfl)) ?_; clear hr a; intro a hr
     refine ln ?_
     refine cond_tt hr (b := true) rfl ?_
     refine sr ?_
     refine ov hr (vB false) (by kernel_rfl) ?_; clear hr a; intro a hr
     refine ln ?_
     refine wp_ret ?_
     refine blk_ret ?_
     refine then_ret ?_
     refine then_ret ?_
     refine blk_ret ?_
     refine then_ret ?_
     refine end_ret1 (v := vB false) rfl hr (by kernel_rfl) ?_
     replace H := jx0 H hK54
     replace H := ej2 H; obtain ⟨rfl, rfl⟩ := H
     exact ⟨ca4, cc5, rfl, h⟩
   ·
    replace H := ifF c57 H
    refine cond_ff hr (b := (decide (g56 < g6))) (decide_eq_false c57) ?_
    refine wp_exit ?_
    refine then_exit ?_
    refine then_exit ?_
    refine blk_here ?_
    refine then_normal ?_
    replace hr := hr.fold2 [(0, .iface 51 (pA B0 0)), (7, vI g6)] (by kernel_rfl); obtain ⟨j, hr⟩ := hr
    exact ⟨(), sinj H, j, hr, h⟩
 clear h hr a; rintro _ a w ⟨rfl, j, hr, h⟩
 replace H := jk0 hK54
 refine sr ?_
 replace H := bd2 H; obtain ⟨r63, r64, e65, H⟩ := H
 refine ov hr (.iface 51 (pA B0 0)) (by kernel_rfl) ?_; clear hr a; intro a hr
 have hc := cells_Shared_Load_ok (H := e65) (h := h)
 refine op_call (wn rfl) rfl rfl hr (f := 73) (args := #[pA B0 0, vI (-1)]) (by kernel_rfl) hc ?_; clear hc h
 rintro _ w ⟨rfl, h⟩; refine ⟨_, rfl, ?_⟩
 clear hr a; intro a hr
 refine ovs [114, 117, 118, 19, 20] [.tuple #[vI r63, vI r64], vI r63, vI r64, vI r63, vI r64] hr ⟨rfl, rfl⟩ (by kernel_rfl) ?_; clear hr a; intro a hr
 refine ln ?_
 refine sr ?_
 replace H := bd2 H; obtain ⟨r66, r67, e68, H⟩ := H
 refine ovs [120, 121] [.iface 51 (pA B0 0), vI g6] hr ⟨rfl, rfl⟩ (by kernel_rfl) ?_; clear hr a; intro a hr
 have hc := cells_Shared_Load_ok (H := e68) (h := h)
 refine op_call (wn rfl) rfl rfl hr (f := 73) (args := #[pA B0 0, vI g6]) (by kernel_rfl) hc ?_; clear hc h
 rintro _ w ⟨rfl, h⟩; refine ⟨_, rfl, ?_⟩
 clear hr a; intro a hr
 refine ovs [119, 123, 124, 21, 22] [.tuple #[vI r66, vI r67], vI r66, vI r67, vI r66, vI r67] hr ⟨rfl, rfl⟩ (by kernel_rfl) ?_; clear hr a; intro a hr
 refine ln ?_
 refine sr ?_
 refine ovs [125, 126, 127] [vI r67, vB (r67 != (0 : Int)), vB (r67 != (0 : Int))] hr ⟨rfl, rfl⟩ (by kernel_rfl) ?_; clear hr a; intro a hr
 by_cases c69 : r67 = (0 : Int)
 ·
  replace H := ifT c69 H
  refine offg (wgt hr (bne_eq_false_iff_eq.mpr c69)) hr ?_; clear hr a; intro a hr
  refine offg (wgt hr (bne_eq_false_iff_eq.mpr c69)) hr ?_; clear hr a; intro a hr
  refine opv (wn rfl) hr (vB false) (rp_f (b := (r67 != (0 : Int))) rfl (by kernel_rfl) (bne_eq_false_iff_eq.mpr c69) (by kernel_rfl)) ?_; clear hr a; intro a hr
  refine ov hr (vB false) (by kernel_rfl) ?_; clear hr a; intro a hr
  refine ln ?_
  refine wp_ret ?_
  refine end_ret1 (v := vB false) rfl hr (by kernel_rfl) ?_
  replace H := ej2 H; obtain ⟨rfl, rfl⟩ := H
  exact ⟨ca4, cc5, rfl, h⟩
 ·
  replace H := ifF c69 H
  refine opv (wgt hr (bne_iff_ne.mpr c69)) hr (vI r64) (by kernel_rfl) ?_; clear hr a; intro a hr
  refine opv (wgt hr (bne_iff_ne.mpr c69)) hr (vB (r64 != (0 : Int))) (by kernel_rfl) ?_; clear hr a; intro a hr
  refine opv (wn rfl) hr (vB (r64 != (0 : Int))) (rp_t (b := (r67 != (0 : Int))) rfl (by kernel_rfl) (bne_iff_ne.mpr c69) (by kernel_rfl)) ?_; clear hr a; intro a hr
  refine ov hr (vB (r64 != (0 : Int))) (by kernel_rfl) ?_; clear hr a; intro a hr
  refine ln ?_
  refine wp_ret ?_
  refine end_ret1 (v := vB (r64 != (0 : Int))) rfl hr (by kernel_rfl) ?_
  replace H := ej2 H; obtain ⟨rfl, rfl⟩ := H
  exact ⟨ca4, cc5, rfl, h⟩

/-- plunder/cells.New -/
def cells_New (p0 : Int) : Option ((Option T_cells_Arena) × Int) :=
  ob1 (cells_good p0) (fun r1 => (if r1 = true then some (some (⟨p0, 0, ([] : List Int), ([] : List T_api_Access), 0, false⟩ : T_cells_Arena), 0) else some (none, 3)))
set_option maxRecDepth 100000 in
set_option maxHeartbeats 4000000 in
theorem cells_New_ok0 {z w : World} {L : List HProp} {p0 : Int} {r0 : T_cells_Arena} {r1 : Int} (H : cells_New p0 = some ((some r0), r1)) (h : Fit z (sepL (L)) w)  :
    Calls Try.prog 19 #[vI p0] w fun e w => ∃ Bn0 : Nat, ∃ car0_1 : Option Addr, ∃ ccr0_2 : Nat, ∃ car0_3 : Option Addr, ∃ ccr0_4 : Nat, e = .returned (.tuple #[pA Bn0 0, vI r1]) ∧ Fit z (sepL (ob96 Bn0 r0 car0_1 ccr0_2 car0_3 ccr0_4 :: ro2 car0_1 ccr0_2 r0.cell :: ro90 car0_3 ccr0_4 r0.log :: L)) w := by
 unfold cells_New at H
 refine enter Try.func19 rfl 11 rfl rfl [(0, vI p0)] ⟨rfl, trivial⟩ ?_
 intro j a hr
 refine sr ?_
 refine ovs [2, 3] [pN, vI 0] hr ⟨rfl, rfl⟩ (by kernel_rfl) ?_; clear hr a; intro a hr
 refine ln ?_
 refine wp_seq ?_
 refine sr ?_
 replace H := bd1 H; obtain ⟨r1, e2, H⟩ := H
 refine ov hr (vI p0) (by kernel_rfl) ?_; clear hr a; intro a hr
 have hc := cells_good_ok (H := e2) (h := h)
 refine op_call (wn rfl) rfl rfl hr (f := 61) (args := #[vI p0]) (by kernel_rfl) hc ?_; clear hc h
 rintro _ w ⟨rfl, h⟩; refine ⟨_, rfl, ?_⟩
 clear hr a; intro a hr
 refine ov hr (vB (!r1)) (by kernel_rfl) ?_; clear hr a; intro a hr
 refine ln ?_
 by_cases c3 : r1 = true
 ·
  replace H := ifT c3 H
  refine cond_ff hr (b := (!r1)) (by rw [show r1 = true from (c3)]; rfl) ?_
  refine wp_skip ?_
  refine then_normal ?_
  refine sr ?_
  refine ovs [7, 8, 9] [vI p0, .agg #[vI p0, vI 0], .agg #[vI p0, vI 0, .slice none 0 0, .slice none 0 0, vI 0, vB false]] hr ⟨rfl, rfl⟩ (by kernel_rfl) ?_; clear hr a; intro a hr
  refine op_new (wn rfl) rfl rfl hr h (vf := fun b => .pointer (some ⟨b, 0, none⟩)) (cs := #[vI p0, vI 0, .slice none 0 0, .slice none 0 0, vI 0, vB false]) (T := 96) (by kernel_rfl) ?_; clear h hr a; intro b4 w a h hr
  refine ovs [2, 3] [pA b4 0, vI 0] hr ⟨rfl, rfl⟩ (by kernel_rfl) ?_; clear hr a; intro a hr
  refine ln ?_
  refine wp_ret ?_
  refine end_ret2 (v := pA b4 0) (v' := vI 0) rfl hr (by kernel_rfl) (by kernel_rfl) ?_
  replace h : Fit z (sepL (rowOf 2 1 encZ_i64 (.slice none 0 0) ([] : List Int) :: pts b4 (.cells #[vI p0, vI 0, .slice none 0 0, .slice none 0 0, vI 0, vB false] 96) :: L)) _ := h.row_nil
  replace h : Fit z (sepL (rowOf 90 6 enc_T_api_Access (.slice none 0 0) ([] : List T_api_Access) :: rowOf 2 1 encZ_i64 (.slice none 0 0) ([] : List Int) :: pts b4 (.cells #[vI p0, vI 0, .slice none 0 0, .slice none 0 0, vI 0, vB false] 96) :: L)) _ := h.row_nil
  replace h : Fit z (sepL (pts b4 (.cells #[vI p0, vI 0, .slice none 0 0, .slice none 0 0, vI 0, vB false] 96) :: rowOf 2 1 encZ_i64 (.slice none 0 0) ([] : List Int) :: rowOf 90 6 enc_T_api_Access (.slice none 0 0) ([] : List T_api_Access) :: L)) _ := h.sel 3 [2, 1, 0] (by kernel_rfl) (by kernel_rfl)
  cases H
  exact ⟨b4, none, 0, none, 0, rfl, h⟩
 ·
  replace H := ifF c3 H
  refine cond_tt hr (b := (!r1)) (by rw [show r1 = false from (bF c3)]; rfl) ?_
  refine sr ?_
  refine ovs [2, 3] [pN, vI 3] hr ⟨rfl, rfl⟩ (by kernel_rfl) ?_; clear hr a; intro a hr
  refine ln ?_
  refine wp_ret ?_
  refine then_ret ?_
  refine end_ret2 (v := pN) (v' := vI 3) rfl hr (by kernel_rfl) (by kernel_rfl) ?_
  cases H

set_option maxRecDepth 100000 in
set_option maxHeartbeats 4000000 in
theorem cells_New_ok1 {z w : World} {L : List HProp} {p0 : Int} {r1 : Int} (H : cells_New p0 = some (none, r1)) (h : Fit z (sepL (L)) w)  :
    Calls Try.prog 19 #[vI p0] w fun e w => e = .returned (.tuple #[pN, vI r1]) ∧ Fit z (sepL (L)) w := by
 unfold cells_New at H
 refine enter Try.func19 rfl 11 rfl rfl [(0, vI p0)] ⟨rfl, trivial⟩ ?_
 intro j a hr
 refine sr ?_
 refine ovs [2, 3] [pN, vI 0] hr ⟨rfl, rfl⟩ (by kernel_rfl) ?_; clear hr a; intro a hr
 refine ln ?_
 refine wp_seq ?_
 refine sr ?_
 replace H := bd1 H; obtain ⟨r1, e2, H⟩ := H
 refine ov hr (vI p0) (by kernel_rfl) ?_; clear hr a; intro a hr
 have hc := cells_good_ok (H := e2) (h := h)
 refine op_call (wn rfl) rfl rfl hr (f := 61) (args := #[vI p0]) (by kernel_rfl) hc ?_; clear hc h
 rintro _ w ⟨rfl, h⟩; refine ⟨_, rfl, ?_⟩
 clear hr a; intro a hr
 refine ov hr (vB (!r1)) (by kernel_rfl) ?_; clear hr a; intro a hr
 refine ln ?_
 by_cases c3 : r1 = true
 ·
  replace H := ifT c3 H
  refine cond_ff hr (b := (!r1)) (by rw [show r1 = true from (c3)]; rfl) ?_
  refine wp_skip ?_
  refine then_normal ?_
  refine sr ?_
  refine ovs [7, 8, 9] [vI p0, .agg #[vI p0, vI 0], .agg #[vI p0, vI 0, .slice none 0 0, .slice none 0 0, vI 0, vB false]] hr ⟨rfl, rfl⟩ (by kernel_rfl) ?_; clear hr a; intro a hr
  refine op_new (wn rfl) rfl rfl hr h (vf := fun b => .pointer (some ⟨b, 0, none⟩)) (cs := #[vI p0, vI 0, .slice none 0 0, .slice none 0 0, vI 0, vB false]) (T := 96) (by kernel_rfl) ?_; clear h hr a; intro b4 w a h hr
  refine ovs [2, 3] [pA b4 0, vI 0] hr ⟨rfl, rfl⟩ (by kernel_rfl) ?_; clear hr a; intro a hr
  refine ln ?_
  refine wp_ret ?_
  refine end_ret2 (v := pA b4 0) (v' := vI 0) rfl hr (by kernel_rfl) (by kernel_rfl) ?_
  replace h : Fit z (sepL (rowOf 2 1 encZ_i64 (.slice none 0 0) ([] : List Int) :: pts b4 (.cells #[vI p0, vI 0, .slice none 0 0, .slice none 0 0, vI 0, vB false] 96) :: L)) _ := h.row_nil
  replace h : Fit z (sepL (rowOf 90 6 enc_T_api_Access (.slice none 0 0) ([] : List T_api_Access) :: rowOf 2 1 encZ_i64 (.slice none 0 0) ([] : List Int) :: pts b4 (.cells #[vI p0, vI 0, .slice none 0 0, .slice none 0 0, vI 0, vB false] 96) :: L)) _ := h.row_nil
  cases H
 ·
  replace H := ifF c3 H
  refine cond_tt hr (b := (!r1)) (by rw [show r1 = false from (bF c3)]; rfl) ?_
  refine sr ?_
  refine ovs [2, 3] [pN, vI 3] hr ⟨rfl, rfl⟩ (by kernel_rfl) ?_; clear hr a; intro a hr
  refine ln ?_
  refine wp_ret ?_
  refine then_ret ?_
  refine end_ret2 (v := pN) (v' := vI 3) rfl hr (by kernel_rfl) (by kernel_rfl) ?_
  cases H
  exact ⟨rfl, h⟩

/-- (*plunder/cells.ledger).refuse -/
def cells_ledger_refuse_Arena (p0 : T_cells_Arena) (p1 : Int) : Option (Int) :=
  (if p1 < (1 : Int) then some 21 else (if p1 > (wi (p0.ledger_size - p0.ledger_mark)) then some 22 else some 0))
set_option maxRecDepth 100000 in
set_option maxHeartbeats 4000000 in
theorem cells_ledger_refuse_Arena_ok {z w : World} {L : List HProp} {p0 : T_cells_Arena} {p1 : Int} {B0 : Nat} {ca1 : Option Addr} {cc2 : Nat} {ca3 : Option Addr} {cc4 : Nat} {r0 : Int} (H : cells_ledger_refuse_Arena p0 p1 = some r0) (h : Fit z (sepL (ob96 B0 p0 ca1 cc2 ca3 cc4 :: ro2 ca1 cc2 p0.cell :: ro90 ca3 cc4 p0.log :: L)) w)  :
    Calls Try.prog 62 #[pA B0 0, vI p1] w fun e w => e = .returned (vI r0) ∧ Fit z (sepL (ob96 B0 p0 ca1 cc2 ca3 cc4 :: ro2 ca1 cc2 p0.cell :: ro90 ca3 cc4 p0.log :: L)) w := by
 unfold cells_ledger_refuse_Arena at H
 refine enter Try.func62 rfl 22 rfl rfl [(0, pA B0 0), (1, vI p1)] ⟨rfl, rfl, trivial⟩ ?_
 intro j a hr
 refine sr ?_
 refine ov hr (vI 0) (by kernel_rfl) ?_; clear hr a; intro a hr
 refine ln ?_
 refine wp_seq ?_
 refine sr ?_
 refine ovs [5, 6] [vI p1, vB (decide (p1 < (1 : Int)))] hr ⟨rfl, rfl⟩ (by kernel_rfl) ?_; clear hr a; intro a hr
 refine ln ?_
 by_cases c5 : p1 < (1 : Int)
 ·
  replace H := ifT c5 H
  refine cond_tt hr (b := (decide (p1 < (1 : Int)))) (decide_eq_true c5) ?_
  refine sr ?_
  refine ov hr (vI 21) (by kernel_rfl) ?_; clear hr a; intro a hr
  refine ln ?_
  refine wp_ret ?_
  refine then_ret ?_
  refine end_ret1 (v := vI 21) rfl hr (by kernel_rfl) ?_
  replace H := ej1 H; subst H
  exact ⟨rfl, h⟩
 ·
  replace H := ifF c5 H
  refine cond_ff hr (b := (decide (p1 < (1 : Int)))) (decide_eq_false c5) ?_
  refine wp_skip ?_
  refine then_normal ?_
  refine wp_seq ?_
  refine wp_seq ?_
  refine reg_E (fun w => heldC w B0 0 ([vI p0.ledger_size]) ∧ heldC w B0 1 ([vI p0.ledger_mark]) ∧ True) [1, 5, 6, 9, 10] h (by kernel_rfl) ?_; intro w h
  change wpAnyE _ _ _ _ _ _ 15 (Array.replicate 15 false) a w
  have hgo : ∀ w w', CellsGo w w' → (heldC w B0 0 ([vI p0.ledger_size]) ∧ heldC w B0 1 ([vI p0.ledger_mark]) ∧ True) → heldC w' B0 0 ([vI p0.ledger_size]) ∧ heldC w' B0 1 ([vI p0.ledger_mark]) ∧ True := fun w w' g hD => ⟨heldC_go _ _ _ _ _ g hD.1, heldC_go _ _ _ _ _ g hD.2.1, trivial⟩
  refine ev 14 0 rfl (by kernel_rfl) (wn rfl) hr (pA B0 0) (fun w => by kernel_rfl) ?_; clear hr a; intro a hr
  refine evD hgo ⟨⟨h.cell 0 rfl, trivial⟩, ⟨h.cell 1 rfl, trivial⟩, trivial⟩ 13 1 rfl (by kernel_rfl) (wn rfl) hr (vB false) (fun w => by kernel_rfl) ?_; clear hr a; intro a hr
  refine ev 12 2 rfl (by kernel_rfl) (wn rfl) hr (vB false) (fun w => by kernel_rfl) ?_; clear hr a; intro a hr
  refine ev 11 3 rfl (by kernel_rfl) (wgt hr (c := false) rfl) hr (vI p1) (fun w => by kernel_rfl) ?_; clear hr a; intro a hr
  refine ev 10 4 rfl (by kernel_rfl) (wgt hr (c := false) rfl) hr (pA B0 0) (fun w => by kernel_rfl) ?_; clear hr a; intro a hr
  refine evD hgo ⟨⟨h.cell 0 rfl, trivial⟩, ⟨h.cell 1 rfl, trivial⟩, trivial⟩ 9 5 rfl (by kernel_rfl) (wgt hr (c := false) rfl) hr (pA B0 0) (fun w => by kernel_rfl) ?_; clear hr a; intro a hr
  refine evD hgo ⟨⟨h.cell 0 rfl, trivial⟩, ⟨h.cell 1 rfl, trivial⟩, trivial⟩ 8 6 rfl (by kernel_rfl) (wgt hr (c := false) rfl) hr (pA B0 0) (fun w => by kernel_rfl) ?_; clear hr a; intro a hr
  refine ev 7 8 rfl (by kernel_rfl) (wgt hr (c := false) rfl) hr (pA B0 0) (fun w => by kernel_rfl) ?_; clear hr a; intro a hr
  refine evD hgo ⟨⟨h.cell 0 rfl, trivial⟩, ⟨h.cell 1 rfl, trivial⟩, trivial⟩ 6 9 rfl (by kernel_rfl) (wgt hr (c := false) rfl) hr (pA B0 0) (fun w => by kernel_rfl) ?_; clear hr a; intro a hr
  refine evD hgo ⟨⟨h.cell 0 rfl, trivial⟩, ⟨h.cell 1 rfl, trivial⟩, trivial⟩ 5 10 rfl (by kernel_rfl) (wgt hr (c := false) rfl) hr (pA B0 1) (fun w => by kernel_rfl) ?_; clear hr a; intro a hr
  refine el [1, 5, 6, 9, 10] (b := B0) (off := 0) (cs := [vI p0.ledger_size]) (fun _ hk => ⟨hk, fun w hD => hD.1⟩) 4 7 rfl (by kernel_rfl) (wgt hr (c := false) rfl) hr (vI p0.ledger_size) ⟨h.cell 0 rfl, trivial⟩ (fun w hc => rl rfl (by kernel_rfl) (by kernel_rfl) hc.1) ?_; clear hr a; intro a hr
  refine el [1, 5, 6, 9, 10] (b := B0) (off := 1) (cs := [vI p0.ledger_mark]) (fun _ hk => ⟨hk, fun w hD => hD.2.1⟩) 3 11 rfl (by kernel_rfl) (wgt hr (c := false) rfl) hr (vI p0.ledger_mark) ⟨h.cell 1 rfl, trivial⟩ (fun w hc => rl rfl (by kernel_rfl) (by kernel_rfl) hc.1) ?_; clear hr a; intro a hr
  refine ev 2 12 rfl (by kernel_rfl) (wgt hr (c := false) rfl) hr (vI (wi (p0.ledger_size - p0.ledger_mark))) (fun w => by kernel_rfl) ?_; clear hr a; intro a hr
  refine ev 1 13 rfl (by kernel_rfl) (wgt hr (c := false) rfl) hr (vB (decide (p1 > (wi (p0.ledger_size - p0.ledger_mark))))) (fun w => by kernel_rfl) ?_; clear hr a; intro a hr
  refine ev 0 14 rfl (by kernel_rfl) (wn rfl) hr (vB (decide (p1 > (wi (p0.ledger_size - p0.ledger_mark))))) (fun w => by kernel_rfl) ?_; clear hr a; intro a hr
  refine e_end (by kernel_rfl) ?_
  refine then_normal ?_
  by_cases c6 : p1 > (wi (p0.ledger_size - p0.ledger_mark))
  ·
   replace H := ifT c6 H
   refine cond_tt hr (b := (decide (p1 > (wi (p0.ledger_size - p0.ledger_mark))))) (decide_eq_true c6) ?_
   refine sr ?_
   refine ov hr (vI 22) (by kernel_rfl) ?_; clear hr a; intro a hr
   refine ln ?_
   refine wp_ret ?_
   refine then_ret ?_
   refine end_ret1 (v := vI 22) rfl hr (by kernel_rfl) ?_
   replace H := ej1 H; subst H
   exact ⟨rfl, h⟩
  ·
   replace H := ifF c6 H
   refine cond_ff hr (b := (decide (p1 > (wi (p0.ledger_size - p0.ledger_mark))))) (decide_eq_false c6) ?_
   refine wp_skip ?_
   refine then_normal ?_
   refine sr ?_
   refine ov hr (vI 0) (by kernel_rfl) ?_; clear hr a; intro a hr
   refine ln ?_
   refine wp_ret ?_
   refine end_ret1 (v := vI 0) rfl hr (by kernel_rfl) ?_
   replace H := ej1 H; subst H
   exact ⟨rfl, h⟩

/-- (*plunder/cells.ledger).take -/
def cells_ledger_take_Arena (p0 : T_cells_Arena) (p1 : Int) : Option (Int × T_cells_Arena) :=
  some (p0.ledger_mark, { p0 with ledger_mark := wi (p0.ledger_mark + p1) })
set_option maxRecDepth 100000 in
set_option maxHeartbeats 4000000 in
theorem cells_ledger_take_Arena_ok {z w : World} {L : List HProp} {p0 : T_cells_Arena} {p1 : Int} {B0 : Nat} {ca1 : Option Addr} {cc2 : Nat} {ca3 : Option Addr} {cc4 : Nat} {r0 : Int} {q0 : T_cells_Arena} (H : cells_ledger_take_Arena p0 p1 = some (r0, q0)) (h : Fit z (sepL (ob96 B0 p0 ca1 cc2 ca3 cc4 :: ro2 ca1 cc2 p0.cell :: ro90 ca3 cc4 p0.log :: L)) w)  :
    Calls Try.prog 63 #[pA B0 0, vI p1] w fun e w => ∃ caq0_1 : Option Addr, ∃ ccq0_2 : Nat, ∃ caq0_3 : Option Addr, ∃ ccq0_4 : Nat, e = .returned (vI r0) ∧ Fit z (sepL (ob96 B0 q0 caq0_1 ccq0_2 caq0_3 ccq0_4 :: ro2 caq0_1 ccq0_2 q0.cell :: ro90 caq0_3 ccq0_4 q0.log :: L)) w := by
 unfold cells_ledger_take_Arena at H
 refine enter Try.func63 rfl 19 rfl rfl [(0, pA B0 0), (1, vI p1)] ⟨rfl, rfl, trivial⟩ ?_
 intro j a hr
 refine sr ?_
 refine ov hr (vI 0) (by kernel_rfl) ?_; clear hr a; intro a hr
 refine ln ?_
 refine sr ?_
 refine ovs [6, 7, 8] [pA B0 0, pA B0 0, pA B0 1] hr ⟨rfl, rfl⟩ (by kernel_rfl) ?_; clear hr a; intro a hr
 refine ld (wn rfl) hr (vI p0.ledger_mark) (h.cell 1 rfl) ?_; clear hr a; intro a hr
 refine ov hr (vI p0.ledger_mark) (by kernel_rfl) ?_; clear hr a; intro a hr
 refine ln ?_
 refine sr ?_
 refine ovs [10, 11, 12] [pA B0 0, pA B0 0, pA B0 1] hr ⟨rfl, rfl⟩ (by kernel_rfl) ?_; clear hr a; intro a hr
 refine ld (wn rfl) hr (vI p0.ledger_mark) (h.cell 1 rfl) ?_; clear hr a; intro a hr
 refine ovs [14, 15, 16, 17] [vI p1, vI (wi (p0.ledger_mark + p1)), pA B0 0, pA B0 1] hr ⟨rfl, rfl⟩ (by kernel_rfl) ?_; clear hr a; intro a hr
 refine op_store (wn rfl) rfl hr rfl (by kernel_rfl) (by kernel_rfl) (v := vI (wi (p0.ledger_mark + p1))) rfl rfl (by kernel_rfl) h (i := 1) rfl ?_; clear h; intro w h
 refine wpList_nil ?_
 replace h : Fit z (sepL (pts B0 (.cells #[vI p0.ledger_size, vI (wi (p0.ledger_mark + p1)), .slice ca1 p0.cell.length cc2, .slice ca3 p0.log.length cc4, vI p0.actor, vB p0.watched] 96) :: ro2 ca1 cc2 p0.cell :: ro90 ca3 cc4 p0.log :: L)) _ := h
 refine then_normal ?_
 refine sr ?_
 refine ovs [18, 4] [vI p0.ledger_mark, vI p0.ledger_mark] hr ⟨rfl, rfl⟩ (by kernel_rfl) ?_; clear hr a; intro a hr
 refine ln ?_
 refine wp_ret ?_
 refine end_ret1 (v := vI p0.ledger_mark) rfl hr (by kernel_rfl) ?_
 replace H := ej2 H; obtain ⟨rfl, rfl⟩ := H
 exact ⟨ca1, cc2, ca3, cc4, rfl, h⟩

/-- (*plunder/cells.Arena).note -/
def cells_Arena_note (p0 : T_cells_Arena) (p1 : Int) (p2 : Int) (p3 : Int) (p4 : Int) (p5 : Bool) : Option (T_cells_Arena) :=
  (if p0.watched = true then if (p0.log.length + 1) * 48 ≤ 140737488355328 then some ({ p0 with log := p0.log ++ [(⟨p0.actor, p1, p2, p3, p4, p5⟩ : T_api_Access)] }) else none else some p0)
set_option maxRecDepth 100000 in
set_option maxHeartbeats 4000000 in
theorem cells_Arena_note_ok {z w : World} {L : List HProp} {p0 : T_cells_Arena} {p1 : Int} {p2 : Int} {p3 : Int} {p4 : Int} {p5 : Bool} {B0 : Nat} {ca1 : Option Addr} {cc2 : Nat} {ca3 : Option Addr} {cc4 : Nat} {q0 : T_cells_Arena} (H : cells_Arena_note p0 p1 p2 p3 p4 p5 = some q0) (h : Fit z (sepL (ob96 B0 p0 ca1 cc2 ca3 cc4 :: ro2 ca1 cc2 p0.cell :: ro90 ca3 cc4 p0.log :: L)) w)  :
    Calls Try.prog 64 #[pA B0 0, vI p1, vI p2, vI p3, vI p4, vB p5] w fun e w => ∃ caq0_1 : Option Addr, ∃ ccq0_2 : Nat, ∃ caq0_3 : Option Addr, ∃ ccq0_4 : Nat, e = .returned (.tuple #[]) ∧ Fit z (sepL (ob96 B0 q0 caq0_1 ccq0_2 caq0_3 ccq0_4 :: ro2 caq0_1 ccq0_2 q0.cell :: ro90 caq0_3 ccq0_4 q0.log :: L)) w := by
 unfold cells_Arena_note at H
 refine enter Try.func64 rfl 35 rfl rfl [(0, pA B0 0), (1, vI p1), (2, vI p2), (3, vI p3), (4, vI p4), (5, vB p5)] ⟨rfl, rfl, rfl, rfl, rfl, rfl, trivial⟩ ?_
 intro j a hr
 refine sr ?_
 refine ovs [12, 13, 14] [pA B0 0, pA B0 0, pA B0 5] hr ⟨rfl, rfl⟩ (by kernel_rfl) ?_; clear hr a; intro a hr
 refine ld (wn rfl) hr (vB p0.watched) (h.cell 5 rfl) ?_; clear hr a; intro a hr
 refine ln ?_
 by_cases c5 : p0.watched = true
 ·
  replace H := ifT c5 H
  refine cond_tt hr (b := p0.watched) (c5) ?_
  replace H := gd H; obtain ⟨c9, H⟩ := H
  refine reg_E (fun w => heldC w B0 3 ([.slice ca3 p0.log.length cc4]) ∧ heldC w B0 4 ([vI p0.actor]) ∧ True) [2, 3, 6, 7, 14] h (by kernel_rfl) ?_; intro w h
  change wpAnyE _ _ _ _ _ _ 20 (Array.replicate 20 false) a w
  have hgo : ∀ w w', CellsGo w w' → (heldC w B0 3 ([.slice ca3 p0.log.length cc4]) ∧ heldC w B0 4 ([vI p0.actor]) ∧ True) → heldC w' B0 3 ([.slice ca3 p0.log.length cc4]) ∧ heldC w' B0 4 ([vI p0.actor]) ∧ True := fun w w' g hD => ⟨heldC_go _ _ _ _ _ g hD.1, heldC_go _ _ _ _ _ g hD.2.1, trivial⟩
  refine ev 19 0 rfl (by kernel_rfl) (wn rfl) hr (pA B0 0) (fun w => by kernel_rfl) ?_; clear hr a; intro a hr
  refine ev 18 1 rfl (by kernel_rfl) (wn rfl) hr (pA B0 0) (fun w => by kernel_rfl) ?_; clear hr a; intro a hr
  refine evD hgo ⟨⟨h.cell 3 rfl, trivial⟩, ⟨h.cell 4 rfl, trivial⟩, trivial⟩ 17 2 rfl (by kernel_rfl) (wn rfl) hr (pA B0 0) (fun w => by kernel_rfl) ?_; clear hr a; intro a hr
  refine evD hgo ⟨⟨h.cell 3 rfl, trivial⟩, ⟨h.cell 4 rfl, trivial⟩, trivial⟩ 16 3 rfl (by kernel_rfl) (wn rfl) hr (pA B0 3) (fun w => by kernel_rfl) ?_; clear hr a; intro a hr
  refine ev 15 5 rfl (by kernel_rfl) (wn rfl) hr (pA B0 0) (fun w => by kernel_rfl) ?_; clear hr a; intro a hr
  refine evD hgo ⟨⟨h.cell 3 rfl, trivial⟩, ⟨h.cell 4 rfl, trivial⟩, trivial⟩ 14 6 rfl (by kernel_rfl) (wn rfl) hr (pA B0 0) (fun w => by kernel_rfl) ?_; clear hr a; intro a hr
  refine evD hgo ⟨⟨h.cell 3 rfl, trivial⟩, ⟨h.cell 4 rfl, trivial⟩, trivial⟩ 13 7 rfl (by kernel_rfl) (wn rfl) hr (pA B0 4) (fun w => by kernel_rfl) ?_; clear hr a; intro a hr
  refine ev 12 9 rfl (by kernel_rfl) (wn rfl) hr (vI p1) (fun w => by kernel_rfl) ?_; clear hr a; intro a hr
  refine ev 11 10 rfl (by kernel_rfl) (wn rfl) hr (vI p2) (fun w => by kernel_rfl) ?_; clear hr a; intro a hr
  refine ev 10 11 rfl (by kernel_rfl) (wn rfl) hr (vI p3) (fun w => by kernel_rfl) ?_; clear hr a; intro a hr
  refine ev 9 12 rfl (by kernel_rfl) (wn rfl) hr (vI p4) (fun w => by kernel_rfl) ?_; clear hr a; intro a hr
  refine ev 8 13 rfl (by kernel_rfl) (wn rfl) hr (vB p5) (fun w => by kernel_rfl) ?_; clear hr a; intro a hr
  refine el [2, 3, 6, 7, 14] (b := B0) (off := 3) (cs := [.slice ca3 p0.log.length cc4]) (fun _ hk => ⟨hk, fun w hD => hD.1⟩) 7 4 rfl (by kernel_rfl) (wn rfl) hr (.slice ca3 p0.log.length cc4) ⟨h.cell 3 rfl, trivial⟩ (fun w hc => rl rfl (by kernel_rfl) (by kernel_rfl) hc.1) ?_; clear hr a; intro a hr
  refine el [2, 3, 6, 7, 14] (b := B0) (off := 4) (cs := [vI p0.actor]) (fun _ hk => ⟨hk, fun w hD => hD.2.1⟩) 6 8 rfl (by kernel_rfl) (wn rfl) hr (vI p0.actor) ⟨h.cell 4 rfl, trivial⟩ (fun w hc => rl rfl (by kernel_rfl) (by kernel_rfl) hc.1) ?_; clear hr a; intro a hr
  refine evD hgo ⟨⟨h.cell 3 rfl, trivial⟩, ⟨h.cell 4 rfl, trivial⟩, trivial⟩ 5 14 rfl (by kernel_rfl) (wn rfl) hr (.agg #[vI p0.actor, vI p1, vI p2, vI p3, vI p4, vB p5]) (fun w => by kernel_rfl) ?_; clear hr a; intro a hr
  refine e_one (fuel := 4) (i := 15) (by kernel_rfl) rfl ?_
  refine op_new (wn rfl) rfl rfl hr h (vf := fun b => .slice (some ⟨b, 0, none⟩) 1 1) (cs := #[vI p0.actor, vI p1, vI p2, vI p3, vI p4, vB p5]) (T := 90) (by kernel_rfl) ?_; clear h hr a; intro b6 w a h hr
  refine wpList_nil ?_; refine then_normal ?_
  refine ⟨fun hE => absurd hE (by decide), ?_⟩
  refine e_one (fuel := 3) (i := 16) (by kernel_rfl) rfl ?_
  replace h : Fit z (sepL (ro90 ca3 cc4 p0.log :: pts b6 (.cells #[vI p0.actor, vI p1, vI p2, vI p3, vI p4, vB p5] 90) :: ob96 B0 p0 ca1 cc2 ca3 cc4 :: ro2 ca1 cc2 p0.cell :: L)) _ := h.sel 4 [3, 0, 1, 2] (by kernel_rfl) (by kernel_rfl)
  refine op_append (n0 := p0.log.length) (c := 1) (bytes := 48) (wn rfl) rfl rfl hr rfl (by kernel_rfl) (by kernel_rfl) enc_T_api_Access_ok (E := 90) (xs := p0.log) (by kernel_rfl) (by kernel_rfl) h (news := [(⟨p0.actor, p1, p2, p3, p4, p5⟩ : T_api_Access)]) (m := 1) rfl ((h.pick 1).news rfl) c9 rfl ?_; clear h hr a; intro ca7 cc8 w a h hr
  refine wpList_nil ?_; refine then_normal ?_
  replace h : Fit z (sepL (ro90 ca7 cc8 (p0.log ++ [(⟨p0.actor, p1, p2, p3, p4, p5⟩ : T_api_Access)]) :: pts b6 (.cells #[vI p0.actor, vI p1, vI p2, vI p3, vI p4, vB p5] 90) :: ob96 B0 p0 ca1 cc2 ca3 cc4 :: ro2 ca1 cc2 p0.cell :: L)) _ := h
  refine ⟨fun hE => absurd hE (by decide), ?_⟩
  refine ev 2 17 rfl (by kernel_rfl) (wn rfl) hr (pA B0 0) (fun w => by kernel_rfl) ?_; clear hr a; intro a hr
  refine ev 1 18 rfl (by kernel_rfl) (wn rfl) hr (pA B0 3) (fun w => by kernel_rfl) ?_; clear hr a; intro a hr
  refine e_one (fuel := 0) (i := 19) (by kernel_rfl) rfl ?_
  replace h : Fit z (sepL (ob96 B0 p0 ca1 cc2 ca3 cc4 :: ro90 ca7 cc8 (p0.log ++ [(⟨p0.actor, p1, p2, p3, p4, p5⟩ : T_api_Access)]) :: pts b6 (.cells #[vI p0.actor, vI p1, vI p2, vI p3, vI p4, vB p5] 90) :: ro2 ca1 cc2 p0.cell :: L)) _ := h.sel 4 [2, 0, 1, 3] (by kernel_rfl) (by kernel_rfl)
  refine op_store (wn rfl) rfl hr rfl (by kernel_rfl) (by kernel_rfl) (v := .slice ca7 ((p0.log ++ [(⟨p0.actor, p1, p2, p3, p4, p5⟩ : T_api_Access)]).length) cc8) rfl rfl (by kernel_rfl) h (i := 3) rfl ?_; clear h; intro w h
  refine wpList_nil ?_; refine then_normal ?_
  replace h : Fit z (sepL (pts B0 (.cells #[vI p0.ledger_size, vI p0.ledger_mark, .slice ca1 p0.cell.length cc2, .slice ca7 ((p0.log ++ [(⟨p0.actor, p1, p2, p3, p4, p5⟩ : T_api_Access)]).length) cc8, vI p0.actor, vB p0.watched] 96) :: ro90 ca7 cc8 (p0.log ++ [(⟨p0.actor, p1, p2, p3, p4, p5⟩ : T_api_Access)]) :: pts b6 (.cells #[vI p0.actor, vI p1, vI p2, vI p3, vI p4, vB p5] 90) :: ro2 ca1 cc2 p0.cell :: L)) _ := h
  refine ⟨fun hE => absurd hE (by decide), ?_⟩
  refine e_end (by kernel_rfl) ?_
  refine end_norm0 rfl hr ?_
  replace h : Fit z (sepL (pts B0 (.cells #[vI p0.ledger_size, vI p0.ledger_mark, .slice ca1 p0.cell.length cc2, .slice ca7 ((p0.log ++ [(⟨p0.actor, p1, p2, p3, p4, p5⟩ : T_api_Access)]).length) cc8, vI p0.actor, vB p0.watched] 96) :: ro2 ca1 cc2 p0.cell :: ro90 ca7 cc8 (p0.log ++ [(⟨p0.actor, p1, p2, p3, p4, p5⟩ : T_api_Access)]) :: L)) _ := h.sel 4 [0, 3, 1] (by kernel_rfl) (by kernel_rfl)
  replace H := ej1 H; subst H
  exact ⟨ca1, cc2, ca7, cc8, rfl, h⟩
 ·
  replace H := ifF c5 H
  refine cond_ff hr (b := p0.watched) (bF c5) ?_
  refine wp_skip ?_
  refine end_norm0 rfl hr ?_
  replace H := ej1 H; subst H
  exact ⟨ca1, cc2, ca3, cc4, rfl, h⟩

/-- (*plunder/cells.Arena).Reserve -/
def cells_Arena_Reserve (p0 : T_cells_Arena) (p1 : Int) : Option (Int × Int × T_cells_Arena) :=
  ob0 (some ()) (ob1 (cells_ledger_refuse_Arena p0 p1) (fun r7 => (if r7 = (0 : Int) then ob2 (cells_ledger_take_Arena p0 p1) (fun r10 S11 => if 0 ≤ p1 ∧ (S11.cell.length + p1.toNat) * 8 ≤ 140737488355328 then ob1 (cells_Arena_note ({ S11 with cell := S11.cell ++ List.replicate p1.toNat (0 : Int) }) 4 r10 p1 0 true) (fun S20 => some (r10, 0, S20)) else none) else some (0, r7, p0))))
set_option maxRecDepth 100000 in
set_option maxHeartbeats 4000000 in
theorem cells_Arena_Reserve_ok {z w : World} {L : List HProp} {p0 : T_cells_Arena} {p1 : Int} {B0 : Nat} {ca1 : Option Addr} {cc2 : Nat} {ca3 : Option Addr} {cc4 : Nat} {r0 : Int} {r1 : Int} {q0 : T_cells_Arena} (H : cells_Arena_Reserve p0 p1 = some (r0, r1, q0)) (h : Fit z (sepL (ob96 B0 p0 ca1 cc2 ca3 cc4 :: ro2 ca1 cc2 p0.cell :: ro90 ca3 cc4 p0.log :: L)) w)  :
    Calls Try.prog 20 #[pA B0 0, vI p1] w fun e w => ∃ caq0_1 : Option Addr, ∃ ccq0_2 : Nat, ∃ caq0_3 : Option Addr, ∃ ccq0_4 : Nat, e = .returned (.tuple #[vI r0, vI r1]) ∧ Fit z (sepL (ob96 B0 q0 caq0_1 ccq0_2 caq0_3 ccq0_4 :: ro2 caq0_1 ccq0_2 q0.cell :: ro90 caq0_3 ccq0_4 q0.log :: L)) w := by
 unfold cells_Arena_Reserve at H
 refine enter Try.func20 rfl 37 rfl rfl [(0, pA B0 0), (1, vI p1)] ⟨rfl, rfl, trivial⟩ ?_
 intro j a hr
 refine sr ?_
 refine ovs [4, 5] [vI 0, vI 0] hr ⟨rfl, rfl⟩ (by kernel_rfl) ?_; clear hr a; intro a hr
 refine ln ?_
 refine sr ?_
 refine ov hr (pN) (by kernel_rfl) ?_; clear hr a; intro a hr
 refine ln ?_
 replace H := kd0 H; obtain ⟨o6, H, hK5⟩ := H
 refine cut_rule (β := Unit) (fun _ a w => () = o6 ∧ ∃ j, Rep 37 (lk [(0, pA B0 0), (1, vI p1), (6, pA B0 0)] j) a ∧ Fit z (sepL (ob96 B0 p0 ca1 cc2 ca3 cc4 :: ro2 ca1 cc2 p0.cell :: ro90 ca3 cc4 p0.log :: L)) w) ?_ ?_
 ·
  refine sr ?_
  refine ovs [9, 10] [pA B0 0, vB true] hr ⟨rfl, rfl⟩ (by kernel_rfl) ?_; clear hr a; intro a hr
  refine ln ?_
  refine cond_tt hr (b := true) rfl ?_
  refine wp_region_lit ?_
  refine ovs [11, 12, 13, 6] [pA B0 0, pA B0 0, pA B0 0, pA B0 0] hr ⟨rfl, rfl⟩ (by kernel_rfl) ?_; clear hr a; intro a hr
  refine ln ?_
  replace hr := hr.fold2 [(0, pA B0 0), (1, vI p1), (6, pA B0 0)] (by kernel_rfl); obtain ⟨j, hr⟩ := hr
  exact ⟨(), sinj H, j, hr, h⟩
 clear h hr a; rintro _ a w ⟨rfl, j, hr, h⟩
 replace H := kk0 hK5
 refine wp_seq ?_
 refine sr ?_
 replace H := bd1 H; obtain ⟨r7, e8, H⟩ := H
 refine ovs [14, 15] [pA B0 0, vI p1] hr ⟨rfl, rfl⟩ (by kernel_rfl) ?_; clear hr a; intro a hr
 have hc := cells_ledger_refuse_Arena_ok (H := e8) (h := h)
 refine op_call (wn rfl) rfl rfl hr (f := 62) (args := #[pA B0 0, vI p1]) (by kernel_rfl) hc ?_; clear hc h
 rintro _ w ⟨rfl, h⟩; refine ⟨_, rfl, ?_⟩
 clear hr a; intro a hr
 refine ov hr (vI r7) (by kernel_rfl) ?_; clear hr a; intro a hr
 refine ln ?_
 refine sr ?_
 refine ovs [17, 18] [vI r7, vB (r7 != (0 : Int))] hr ⟨rfl, rfl⟩ (by kernel_rfl) ?_; clear hr a; intro a hr
 refine ln ?_
 by_cases c9 : r7 = (0 : Int)
 ·
  replace H := ifT c9 H
  refine cond_ff hr (b := (r7 != (0 : Int))) (bne_eq_false_iff_eq.mpr c9) ?_
  refine wp_skip ?_
  refine then_normal ?_
  refine sr ?_
  replace H := bd2 H; obtain ⟨r10, S11, e12, H⟩ := H
  refine ovs [20, 21] [pA B0 0, vI p1] hr ⟨rfl, rfl⟩ (by kernel_rfl) ?_; clear hr a; intro a hr
  have hc := cells_ledger_take_Arena_ok (H := e12) (h := h)
  refine op_call (wn rfl) rfl rfl hr (f := 63) (args := #[pA B0 0, vI p1]) (by kernel_rfl) hc ?_; clear hc h
  rintro _ w ⟨caq13, ccq14, caq15, ccq16, rfl, h⟩; refine ⟨_, rfl, ?_⟩
  clear hr a; intro a hr
  refine ov hr (vI r10) (by kernel_rfl) ?_; clear hr a; intro a hr
  refine ln ?_
  refine sr ?_
  refine ovs [23, 24, 25, 26] [pA B0 0, pA B0 0, pA B0 0, pA B0 2] hr ⟨rfl, rfl⟩ (by kernel_rfl) ?_; clear hr a; intro a hr
  refine ld (wn rfl) hr (.slice caq13 S11.cell.length ccq14) (h.cell 2 rfl) ?_; clear hr a; intro a hr
  refine ov hr (vI p1) (by kernel_rfl) ?_; clear hr a; intro a hr
  replace h : Fit z (sepL (ro2 caq13 ccq14 S11.cell :: ob96 B0 S11 caq13 ccq14 caq15 ccq16 :: ro90 caq15 ccq16 S11.log :: L)) _ := h.sel 3 [1, 0, 2] (by kernel_rfl) (by kernel_rfl)
  replace H := gd H; obtain ⟨c19, H⟩ := H
  refine op_extend (kx := .i64) (n0 := S11.cell.length) (i := p1) (m := p1.toNat) (bytes := 8) (zc := #[vI 0]) (0 : Int) (wn rfl) rfl rfl hr rfl (by kernel_rfl) (by kernel_rfl) (Int.toNat_of_nonneg c19.1).symm encZ_i64_ok (E := 2) (xs := S11.cell) (by kernel_rfl) (by kernel_rfl) (by kernel_rfl) rfl h c19.2 rfl ?_; clear h hr a; intro ca17 cc18 w a h hr
  refine ovs [30, 31] [pA B0 0, pA B0 2] hr ⟨rfl, rfl⟩ (by kernel_rfl) ?_; clear hr a; intro a hr
  replace h : Fit z (sepL (ob96 B0 S11 caq13 ccq14 caq15 ccq16 :: ro2 ca17 cc18 (S11.cell ++ List.replicate p1.toNat (0 : Int)) :: ro90 caq15 ccq16 S11.log :: L)) _ := h.sel 3 [1, 0, 2] (by kernel_rfl) (by kernel_rfl)
  refine op_store (wn rfl) rfl hr rfl (by kernel_rfl) (by kernel_rfl) (v := .slice ca17 ((S11.cell ++ List.replicate p1.toNat (0 : Int)).length) cc18) rfl rfl (by kernel_rfl) h (i := 2) rfl ?_; clear h; intro w h
  refine wpList_nil ?_
  replace h : Fit z (sepL (pts B0 (.cells #[vI S11.ledger_size, vI S11.ledger_mark, .slice ca17 ((S11.cell ++ List.replicate p1.toNat (0 : Int)).length) cc18, .slice caq15 S11.log.length ccq16, vI S11.actor, vB S11.watched] 96) :: ro2 ca17 cc18 (S11.cell ++ List.replicate p1.toNat (0 : Int)) :: ro90 caq15 ccq16 S11.log :: L)) _ := h
  refine then_normal ?_
  refine sr ?_
  replace H := bd1 H; obtain ⟨S20, e21, H⟩ := H
  refine ovs [32, 33, 34] [pA B0 0, vI r10, vI p1] hr ⟨rfl, rfl⟩ (by kernel_rfl) ?_; clear hr a; intro a hr
  have hc := cells_Arena_note_ok (H := e21) (h := h)
  refine op_call (wn rfl) rfl rfl hr (f := 64) (args := #[pA B0 0, vI 4, vI r10, vI p1, vI 0, vB true]) (by kernel_rfl) hc ?_; clear hc h
  rintro _ w ⟨caq22, ccq23, caq24, ccq25, rfl, h⟩; refine ⟨_, rfl, ?_⟩
  clear hr a; intro a hr
  refine ln ?_
  refine sr ?_
  refine ovs [36, 4, 5] [vI r10, vI r10, vI 0] hr ⟨rfl, rfl⟩ (by kernel_rfl) ?_; clear hr a; intro a hr
  refine ln ?_
  refine wp_ret ?_
  refine end_ret2 (v := vI r10) (v' := vI 0) rfl hr (by kernel_rfl) (by kernel_rfl) ?_
  replace H := ej3 H; obtain ⟨rfl, rfl, rfl⟩ := H
  exact ⟨caq22, ccq23, caq24, ccq25, rfl, h⟩
 ·
  replace H := ifF c9 H
  refine cond_tt hr (b := (r7 != (0 : Int))) (bne_iff_ne.mpr c9) ?_
  refine sr ?_
  refine ovs [19, 4, 5] [vI r7, vI 0, vI r7] hr ⟨rfl, rfl⟩ (by kernel_rfl) ?_; clear hr a; intro a hr
  refine ln ?_
  refine wp_ret ?_
  refine then_ret ?_
  refine end_ret2 (v := vI 0) (v' := vI r7) rfl hr (by kernel_rfl) (by kernel_rfl) ?_
  replace H := ej3 H; obtain ⟨rfl, rfl, rfl⟩ := H
  exact ⟨ca1, cc2, ca3, cc4, rfl, h⟩

/-- (*plunder/cells.ledger).has -/
def cells_ledger_has (p0 : T_cells_Arena) (p1 : Int) : Option (Bool) :=
  (if p1 ≥ (0 : Int) then some (decide (p1 < p0.ledger_mark)) else some false)
set_option maxRecDepth 100000 in
set_option maxHeartbeats 4000000 in
theorem cells_ledger_has_ok {z w : World} {L : List HProp} {p0 : T_cells_Arena} {p1 : Int} {B0 : Nat} {ca1 : Option Addr} {cc2 : Nat} {ca3 : Option Addr} {cc4 : Nat} {r0 : Bool} (H : cells_ledger_has p0 p1 = some r0) (h : Fit z (sepL (ob96 B0 p0 ca1 cc2 ca3 cc4 :: ro2 ca1 cc2 p0.cell :: ro90 ca3 cc4 p0.log :: L)) w)  :
    Calls Try.prog 100 #[pA B0 0, vI p1] w fun e w => e = .returned (vB r0) ∧ Fit z (sepL (ob96 B0 p0 ca1 cc2 ca3 cc4 :: ro2 ca1 cc2 p0.cell :: ro90 ca3 cc4 p0.log :: L)) w := by
 unfold cells_ledger_has at H
 refine enter Try.func100 rfl 15 rfl rfl [(0, pA B0 0), (1, vI p1)] ⟨rfl, rfl, trivial⟩ ?_
 intro j a hr
 refine sr ?_
 refine ov hr (vB false) (by kernel_rfl) ?_; clear hr a; intro a hr
 refine ln ?_
 refine sr ?_
 refine ovs [5, 6, 7] [vI p1, vB (decide (p1 ≥ (0 : Int))), vB (decide (p1 ≥ (0 : Int)))] hr ⟨rfl, rfl⟩ (by kernel_rfl) ?_; clear hr a; intro a hr
 by_cases c5 : p1 ≥ (0 : Int)
 ·
  replace H := ifT c5 H
  refine opv (wgt hr (decide_eq_true c5)) hr (vI p1) (by kernel_rfl) ?_; clear hr a; intro a hr
  refine opv (wgt hr (decide_eq_true c5)) hr (pA B0 0) (by kernel_rfl) ?_; clear hr a; intro a hr
  refine opv (wgt hr (decide_eq_true c5)) hr (pA B0 0) (by kernel_rfl) ?_; clear hr a; intro a hr
  refine opv (wgt hr (decide_eq_true c5)) hr (pA B0 1) (by kernel_rfl) ?_; clear hr a; intro a hr
  refine ld (wgt hr (decide_eq_true c5)) hr (vI p0.ledger_mark) (h.cell 1 rfl) ?_; clear hr a; intro a hr
  refine opv (wgt hr (decide_eq_true c5)) hr (vB (decide (p1 < p0.ledger_mark))) (by kernel_rfl) ?_; clear hr a; intro a hr
  refine opv (wn rfl) hr (vB (decide (p1 < p0.ledger_mark))) (rp_t (b := (decide (p1 ≥ (0 : Int)))) rfl (by kernel_rfl) (decide_eq_true c5) (by kernel_rfl)) ?_; clear hr a; intro a hr
  refine ov hr (vB (decide (p1 < p0.ledger_mark))) (by kernel_rfl) ?_; clear hr a; intro a hr
  refine ln ?_
  refine wp_ret ?_
  refine end_ret1 (v := vB (decide (p1 < p0.ledger_mark))) rfl hr (by kernel_rfl) ?_
  replace H := ej1 H; subst H
  exact ⟨rfl, h⟩
 ·
  replace H := ifF c5 H
  refine offg (wgt hr (decide_eq_false c5)) hr ?_; clear hr a; intro a hr
  refine offg (wgt hr (decide_eq_false c5)) hr ?_; clear hr a; intro a hr
  refine offg (wgt hr (decide_eq_false c5)) hr ?_; clear hr a; intro a hr
  refine offg (wgt hr (decide_eq_false c5)) hr ?_; clear hr a; intro a hr
  refine offg (wgt hr (decide_eq_false c5)) hr ?_; clear hr a; intro a hr
  refine offg (wgt hr (decide_eq_false c5)) hr ?_; clear hr a; intro a hr
  refine opv (wn rfl) hr (vB false) (rp_f (b := (decide (p1 ≥ (0 : Int)))) rfl (by kernel_rfl) (decide_eq_false c5) (by kernel_rfl)) ?_; clear hr a; intro a hr
  refine ov hr (vB false) (by kernel_rfl) ?_; clear hr a; intro a hr
  refine ln ?_
  refine wp_ret ?_
  refine end_ret1 (v := vB false) rfl hr (by kernel_rfl) ?_
  replace H := ej1 H; subst H
  exact ⟨rfl, h⟩

/-- (*plunder/cells.Arena).outside -/
def cells_Arena_outside (p0 : T_cells_Arena) (p1 : Int) : Option (Bool) :=
  ob1 (cells_ledger_has p0 p1) (fun r5 => some (!r5))
set_option maxRecDepth 100000 in
set_option maxHeartbeats 4000000 in
theorem cells_Arena_outside_ok {z w : World} {L : List HProp} {p0 : T_cells_Arena} {p1 : Int} {B0 : Nat} {ca1 : Option Addr} {cc2 : Nat} {ca3 : Option Addr} {cc4 : Nat} {r0 : Bool} (H : cells_Arena_outside p0 p1 = some r0) (h : Fit z (sepL (ob96 B0 p0 ca1 cc2 ca3 cc4 :: ro2 ca1 cc2 p0.cell :: ro90 ca3 cc4 p0.log :: L)) w)  :
    Calls Try.prog 65 #[pA B0 0, vI p1] w fun e w => e = .returned (vB r0) ∧ Fit z (sepL (ob96 B0 p0 ca1 cc2 ca3 cc4 :: ro2 ca1 cc2 p0.cell :: ro90 ca3 cc4 p0.log :: L)) w := by
 unfold cells_Arena_outside at H
 refine enter Try.func65 rfl 15 rfl rfl [(0, pA B0 0), (1, vI p1)] ⟨rfl, rfl, trivial⟩ ?_
 intro j a hr
 refine sr ?_
 refine ov hr (vB false) (by kernel_rfl) ?_; clear hr a; intro a hr
 refine ln ?_
 refine sr ?_
 refine ovs [5, 6, 7] [pA B0 0, vB false, vB false] hr ⟨rfl, rfl⟩ (by kernel_rfl) ?_; clear hr a; intro a hr
 refine opv (wgt hr (c := false) rfl) hr (pA B0 0) (by kernel_rfl) ?_; clear hr a; intro a hr
 refine opv (wgt hr (c := false) rfl) hr (pA B0 0) (by kernel_rfl) ?_; clear hr a; intro a hr
 refine opv (wgt hr (c := false) rfl) hr (pA B0 0) (by kernel_rfl) ?_; clear hr a; intro a hr
 refine opv (wgt hr (c := false) rfl) hr (vI p1) (by kernel_rfl) ?_; clear hr a; intro a hr
 replace H := bd1 H; obtain ⟨r5, e6, H⟩ := H
 have hc := cells_ledger_has_ok (H := e6) (h := h)
 refine op_call (wgt hr (c := false) rfl) rfl rfl hr (f := 100) (args := #[pA B0 0, vI p1]) (by kernel_rfl) hc ?_; clear hc h
 rintro _ w ⟨rfl, h⟩; refine ⟨_, rfl, ?_⟩
 clear hr a; intro a hr
 refine opv (wgt hr (c := false) rfl) hr (vB (!r5)) (by kernel_rfl) ?_; clear hr a; intro a hr
 refine ovs [14, 4] [vB (!r5), vB (!r5)] hr ⟨rfl, rfl⟩ (by kernel_rfl) ?_; clear hr a; intro a hr
 refine ln ?_
 refine wp_ret ?_
 refine end_ret1 (v := vB (!r5)) rfl hr (by kernel_rfl) ?_
 replace H := ej1 H; subst H
 exact ⟨rfl, h⟩

/-- (*plunder/cells.Arena).Load -/
def cells_Arena_Load (p0 : T_cells_Arena) (p1 : Int) : Option (Int × Int × T_cells_Arena) :=
  ob1 (cells_Arena_outside p0 p1) (fun r5 => (if r5 = true then some (0, 20, p0) else if inr_ p1 p0.cell.length then ob1 (cells_Arena_note p0 0 p1 (at_ p0.cell p1.toNat) 0 true) (fun S9 => some ((at_ p0.cell p1.toNat), 0, S9)) else none))
set_option maxRecDepth 100000 in
set_option maxHeartbeats 4000000 in
theorem cells_Arena_Load_ok {z w : World} {L : List HProp} {p0 : T_cells_Arena} {p1 : Int} {B0 : Nat} {ca1 : Option Addr} {cc2 : Nat} {ca3 : Option Addr} {cc4 : Nat} {r0 : Int} {r1 : Int} {q0 : T_cells_Arena} (H : cells_Arena_Load p0 p1 = some (r0, r1, q0)) (h : Fit z (sepL (ob96 B0 p0 ca1 cc2 ca3 cc4 :: ro2 ca1 cc2 p0.cell :: ro90 ca3 cc4 p0.log :: L)) w)  :
    Calls Try.prog 66 #[pA B0 0, vI p1] w fun e w => ∃ caq0_1 : Option Addr, ∃ ccq0_2 : Nat, ∃ caq0_3 : Option Addr, ∃ ccq0_4 : Nat, e = .returned (.tuple #[vI r0, vI r1]) ∧ Fit z (sepL (ob96 B0 q0 caq0_1 ccq0_2 caq0_3 ccq0_4 :: ro2 caq0_1 ccq0_2 q0.cell :: ro90 caq0_3 ccq0_4 q0.log :: L)) w := by
 unfold cells_Arena_Load at H
 refine enter Try.func66 rfl 22 rfl rfl [(0, pA B0 0), (1, vI p1)] ⟨rfl, rfl, trivial⟩ ?_
 intro j a hr
 refine sr ?_
 refine ovs [4, 5] [vI 0, vI 0] hr ⟨rfl, rfl⟩ (by kernel_rfl) ?_; clear hr a; intro a hr
 refine ln ?_
 refine wp_seq ?_
 refine sr ?_
 replace H := bd1 H; obtain ⟨r5, e6, H⟩ := H
 refine ovs [7, 8] [pA B0 0, vI p1] hr ⟨rfl, rfl⟩ (by kernel_rfl) ?_; clear hr a; intro a hr
 have hc := cells_Arena_outside_ok (H := e6) (h := h)
 refine op_call (wn rfl) rfl rfl hr (f := 65) (args := #[pA B0 0, vI p1]) (by kernel_rfl) hc ?_; clear hc h
 rintro _ w ⟨rfl, h⟩; refine ⟨_, rfl, ?_⟩
 clear hr a; intro a hr
 refine ln ?_
 by_cases c7 : r5 = true
 ·
  replace H := ifT c7 H
  refine cond_tt hr (b := r5) (c7) ?_
  refine sr ?_
  refine ovs [4, 5] [vI 0, vI 20] hr ⟨rfl, rfl⟩ (by kernel_rfl) ?_; clear hr a; intro a hr
  refine ln ?_
  refine wp_ret ?_
  refine then_ret ?_
  refine end_ret2 (v := vI 0) (v' := vI 20) rfl hr (by kernel_rfl) (by kernel_rfl) ?_
  replace H := ej3 H; obtain ⟨rfl, rfl, rfl⟩ := H
  exact ⟨ca1, cc2, ca3, cc4, rfl, h⟩
 ·
  replace H := ifF c7 H
  refine cond_ff hr (b := r5) (bF c7) ?_
  refine wp_skip ?_
  refine then_normal ?_
  refine sr ?_
  refine ovs [10, 11, 12] [pA B0 0, pA B0 0, pA B0 2] hr ⟨rfl, rfl⟩ (by kernel_rfl) ?_; clear hr a; intro a hr
  refine ld (wn rfl) hr (.slice ca1 p0.cell.length cc2) (h.cell 2 rfl) ?_; clear hr a; intro a hr
  replace H := gd H; obtain ⟨c8, H⟩ := H
  refine ov hr (vI p1) (by kernel_rfl) ?_; clear hr a; intro a hr
  refine opv (wn rfl) hr (pA (blk ca1) (p1.toNat * 1)) (ri_row (k := .i64) (E := 2) rfl (by kernel_rfl) (by kernel_rfl) (by kernel_rfl) (by kernel_rfl) (h.pick 1) c8) ?_; clear hr a; intro a hr
  refine ld (wn rfl) hr (vI (at_ p0.cell p1.toNat)) ((h.pick 1).row_cell encZ_i64_ok (f := 0) (at_ok c8) rfl) ?_; clear hr a; intro a hr
  refine ov hr (vI (at_ p0.cell p1.toNat)) (by kernel_rfl) ?_; clear hr a; intro a hr
  refine ln ?_
  refine sr ?_
  replace H := bd1 H; obtain ⟨S9, e10, H⟩ := H
  refine ovs [17, 18, 19] [pA B0 0, vI p1, vI (at_ p0.cell p1.toNat)] hr ⟨rfl, rfl⟩ (by kernel_rfl) ?_; clear hr a; intro a hr
  have hc := cells_Arena_note_ok (H := e10) (h := h)
  refine op_call (wn rfl) rfl rfl hr (f := 64) (args := #[pA B0 0, vI 0, vI p1, vI (at_ p0.cell p1.toNat), vI 0, vB true]) (by kernel_rfl) hc ?_; clear hc h
  rintro _ w ⟨caq11, ccq12, caq13, ccq14, rfl, h⟩; refine ⟨_, rfl, ?_⟩
  clear hr a; intro a hr
  refine ln ?_
  refine sr ?_
  refine ovs [21, 4, 5] [vI (at_ p0.cell p1.toNat), vI (at_ p0.cell p1.toNat), vI 0] hr ⟨rfl, rfl⟩ (by kernel_rfl) ?_; clear hr a; intro a hr
  refine ln ?_
  refine wp_ret ?_
  refine end_ret2 (v := vI (at_ p0.cell p1.toNat)) (v' := vI 0) rfl hr (by kernel_rfl) (by kernel_rfl) ?_
  replace H := ej3 H; obtain ⟨rfl, rfl, rfl⟩ := H
  exact ⟨caq11, ccq12, caq13, ccq14, rfl, h⟩

/-- (*plunder/cells.Arena).Store -/
def cells_Arena_Store (p0 : T_cells_Arena) (p1 : Int) (p2 : Int) : Option (Int × T_cells_Arena) :=
  ob1 (cells_Arena_outside p0 p1) (fun r5 => (if r5 = true then some (20, p0) else if inr_ p1 p0.cell.length then ob1 (cells_Arena_note ({ p0 with cell := p0.cell.set p1.toNat p2 }) 1 p1 p2 0 true) (fun S10 => some (0, S10)) else none))
set_option maxRecDepth 100000 in
set_option maxHeartbeats 4000000 in
theorem cells_Arena_Store_ok {z w : World} {L : List HProp} {p0 : T_cells_Arena} {p1 : Int} {p2 : Int} {B0 : Nat} {ca1 : Option Addr} {cc2 : Nat} {ca3 : Option Addr} {cc4 : Nat} {r0 : Int} {q0 : T_cells_Arena} (H : cells_Arena_Store p0 p1 p2 = some (r0, q0)) (h : Fit z (sepL (ob96 B0 p0 ca1 cc2 ca3 cc4 :: ro2 ca1 cc2 p0.cell :: ro90 ca3 cc4 p0.log :: L)) w)  :
    Calls Try.prog 21 #[pA B0 0, vI p1, vI p2] w fun e w => ∃ caq0_1 : Option Addr, ∃ ccq0_2 : Nat, ∃ caq0_3 : Option Addr, ∃ ccq0_4 : Nat, e = .returned (vI r0) ∧ Fit z (sepL (ob96 B0 q0 caq0_1 ccq0_2 caq0_3 ccq0_4 :: ro2 caq0_1 ccq0_2 q0.cell :: ro90 caq0_3 ccq0_4 q0.log :: L)) w := by
 unfold cells_Arena_Store at H
 refine enter Try.func21 rfl 21 rfl rfl [(0, pA B0 0), (1, vI p1), (2, vI p2)] ⟨rfl, rfl, rfl, trivial⟩ ?_
 intro j a hr
 refine sr ?_
 refine ov hr (vI 0) (by kernel_rfl) ?_; clear hr a; intro a hr
 refine ln ?_
 refine wp_seq ?_
 refine sr ?_
 replace H := bd1 H; obtain ⟨r5, e6, H⟩ := H
 refine ovs [7, 8] [pA B0 0, vI p1] hr ⟨rfl, rfl⟩ (by kernel_rfl) ?_; clear hr a; intro a hr
 have hc := cells_Arena_outside_ok (H := e6) (h := h)
 refine op_call (wn rfl) rfl rfl hr (f := 65) (args := #[pA B0 0, vI p1]) (by kernel_rfl) hc ?_; clear hc h
 rintro _ w ⟨rfl, h⟩; refine ⟨_, rfl, ?_⟩
 clear hr a; intro a hr
 refine ln ?_
 by_cases c7 : r5 = true
 ·
  replace H := ifT c7 H
  refine cond_tt hr (b := r5) (c7) ?_
  refine sr ?_
  refine ov hr (vI 20) (by kernel_rfl) ?_; clear hr a; intro a hr
  refine ln ?_
  refine wp_ret ?_
  refine then_ret ?_
  refine end_ret1 (v := vI 20) rfl hr (by kernel_rfl) ?_
  replace H := ej2 H; obtain ⟨rfl, rfl⟩ := H
  exact ⟨ca1, cc2, ca3, cc4, rfl, h⟩
 ·
  replace H := ifF c7 H
  refine cond_ff hr (b := r5) (bF c7) ?_
  refine wp_skip ?_
  refine then_normal ?_
  refine sr ?_
  refine ovs [10, 11, 12] [pA B0 0, pA B0 0, pA B0 2] hr ⟨rfl, rfl⟩ (by kernel_rfl) ?_; clear hr a; intro a hr
  refine ld (wn rfl) hr (.slice ca1 p0.cell.length cc2) (h.cell 2 rfl) ?_; clear hr a; intro a hr
  replace H := gd H; obtain ⟨c8, H⟩ := H
  refine ovs [14, 15] [vI p1, vI p2] hr ⟨rfl, rfl⟩ (by kernel_rfl) ?_; clear hr a; intro a hr
  refine opv (wn rfl) hr (pA (blk ca1) (p1.toNat * 1)) (ri_row (k := .i64) (E := 2) rfl (by kernel_rfl) (by kernel_rfl) (by kernel_rfl) (by kernel_rfl) (h.pick 1) c8) ?_; clear hr a; intro a hr
  replace h : Fit z (sepL (ro2 ca1 cc2 p0.cell :: ob96 B0 p0 ca1 cc2 ca3 cc4 :: ro90 ca3 cc4 p0.log :: L)) _ := h.sel 3 [1, 0, 2] (by kernel_rfl) (by kernel_rfl)
  refine op_store_row (wn rfl) rfl hr rfl (by kernel_rfl) (by kernel_rfl) (v := vI p2) rfl rfl (by kernel_rfl) encZ_i64_ok h (i := p1.toNat) (f := 0) (p := (at_ p0.cell p1.toNat)) (q := p2) (at_ok c8) (by decide) rfl ?_; clear h; intro w h
  replace h : Fit z (sepL (rowOf 2 1 encZ_i64 (.slice ca1 p0.cell.length cc2) (p0.cell.set p1.toNat p2) :: ob96 B0 p0 ca1 cc2 ca3 cc4 :: ro90 ca3 cc4 p0.log :: L)) _ := h
  refine ln ?_
  refine sr ?_
  refine ovs [17, 18, 19] [pA B0 0, vI p1, vI p2] hr ⟨rfl, rfl⟩ (by kernel_rfl) ?_; clear hr a; intro a hr
  have hn8 := h.row_n
  replace h : Fit z (sepL (ro2 ca1 cc2 (p0.cell.set p1.toNat p2) :: pts B0 (.cells #[vI p0.ledger_size, vI p0.ledger_mark, .slice ca1 ((p0.cell.set p1.toNat p2).length) cc2, .slice ca3 p0.log.length cc4, vI p0.actor, vB p0.watched] 96) :: ro90 ca3 cc4 p0.log :: L)) w := (congrArg (fun q_ : Nat => Fit z (sepL (rowOf 2 1 encZ_i64 (.slice ca1 q_ cc2) (p0.cell.set p1.toNat p2) :: pts B0 (.cells #[vI p0.ledger_size, vI p0.ledger_mark, .slice ca1 q_ cc2, .slice ca3 p0.log.length cc4, vI p0.actor, vB p0.watched] 96) :: ro90 ca3 cc4 p0.log :: L)) w) h.row_n).mp h
  replace H := bd1 H; obtain ⟨S10, e11, H⟩ := H
  replace h : Fit z (sepL (pts B0 (.cells #[vI p0.ledger_size, vI p0.ledger_mark, .slice ca1 ((p0.cell.set p1.toNat p2).length) cc2, .slice ca3 p0.log.length cc4, vI p0.actor, vB p0.watched] 96) :: ro2 ca1 cc2 (p0.cell.set p1.toNat p2) :: ro90 ca3 cc4 p0.log :: L)) _ := h.sel 3 [1, 0, 2] (by kernel_rfl) (by kernel_rfl)
  have hc := cells_Arena_note_ok (H := e11) (h := h)
  refine op_call (wn rfl) rfl rfl hr (f := 64) (args := #[pA B0 0, vI 1, vI p1, vI p2, vI 0, vB true]) (by kernel_rfl) hc ?_; clear hc h
  rintro _ w ⟨caq12, ccq13, caq14, ccq15, rfl, h⟩; refine ⟨_, rfl, ?_⟩
  clear hr a; intro a hr
  refine ln ?_
  refine sr ?_
  refine ov hr (vI 0) (by kernel_rfl) ?_; clear hr a; intro a hr
  refine ln ?_
  refine wp_ret ?_
  refine end_ret1 (v := vI 0) rfl hr (by kernel_rfl) ?_
  replace H := ej2 H; obtain ⟨rfl, rfl⟩ := H
  exact ⟨caq12, ccq13, caq14, ccq15, rfl, h⟩

def plunderlaw2_fresh_iface_Arena_l2 (K : Nat) (p2 : List Int) (g18 : Int) (g19 : Int) (r30 : Int) : Nat → T_cells_Arena → Int → Option ((T_cells_Arena × Int) ⊕ ((T_cells_Arena × Int) ⊕ (Bool × T_cells_Arena)))
  | 0, _, _ => none
  | k2 + 1, S48, g53 => (if g53 < (wi (r30 + (at_ p2 g19.toNat))) then ob3 (cells_Arena_Load S48 g53) (fun r55 r56 S57 => ob2 (cells_Arena_Store S57 g53 (wi ((7 : Int) + (wi ((3 : Int) * g53))))) (fun r63 S64 => (if r55 = (0 : Int) then (if r56 = (0 : Int) then (if r63 = (0 : Int) then (plunderlaw2_fresh_iface_Arena_l2 K p2 g18 g19 r30 k2 S64 (wi (g53 + (1 : Int)))) else some (.inr (.inr (false, S64)))) else some (.inr (.inr (false, S64)))) else some (.inr (.inr (false, S64)))))) else some (.inl (S48, wi (g18 + (at_ p2 g19.toNat)))))
def plunderlaw2_fresh_iface_Arena_l1 (K : Nat) (p1 : Int) (p2 : List Int) : Nat → T_cells_Arena → Int → Int → Option ((T_cells_Arena × Int) ⊕ (Bool × T_cells_Arena))
  | 0, _, _, _ => none
  | k1 + 1, S13, g18, g19 => (if g19 < ((p2.length : Nat) : Int) then jn2 (if inr_ g19 p2.length then ob3 (cells_Arena_Reserve S13 (at_ p2 g19.toNat)) (fun r30 r31 S32 => (if (at_ p2 g19.toNat) < (1 : Int) then (if r31 = (0 : Int) then some (.inr (.inr (false, S32))) else (if r30 = (0 : Int) then some (.inl (S32, g18)) else some (.inr (.inr (false, S32))))) else (if (at_ p2 g19.toNat) > (wi (p1 - g18)) then (if r31 = (0 : Int) then some (.inr (.inr (false, S32))) else (if r30 = (0 : Int) then some (.inl (S32, g18)) else some (.inr (.inr (false, S32))))) else jn0 ((if r31 = (0 : Int) then (if r30 = g18 then some (.inl ()) else some (.inr (.inr (.inr (false, S32))))) else some (.inr (.inr (.inr (false, S32)))))) ((plunderlaw2_fresh_iface_Arena_l2 K p2 g18 g19 r30 K S32 r30))))) else none) (fun S21 g26 => (plunderlaw2_fresh_iface_Arena_l1 K p1 p2 k1 S21 g26 (wi (g19 + (1 : Int))))) else some (.inl (S13, g18)))
def plunderlaw2_fresh_iface_Arena_l3 (K : Nat) (g10 : Int) : Nat → T_cells_Arena → Int → Option ((T_cells_Arena) ⊕ (Bool × T_cells_Arena))
  | 0, _, _ => none
  | k3 + 1, S80, g85 => (if g85 < g10 then ob3 (cells_Arena_Load S80 g85) (fun r87 r88 S89 => (if r88 = (0 : Int) then (if r87 = (wi ((7 : Int) + (wi ((3 : Int) * g85)))) then (plunderlaw2_fresh_iface_Arena_l3 K g10 k3 S89 (wi (g85 + (1 : Int)))) else some (.inr (false, S89))) else some (.inr (false, S89)))) else some (.inl S80))
/-- plunder/plunderlaw2.fresh -/
def plunderlaw2_fresh_iface_Arena (K : Nat) (p0 : T_cells_Arena) (p1 : Int) (p2 : List Int) : Option (Bool × T_cells_Arena) :=
  jn2 ((plunderlaw2_fresh_iface_Arena_l1 K p1 p2 K p0 0 0)) (fun S5 g10 => jn1 ((plunderlaw2_fresh_iface_Arena_l3 K g10 K S5 0)) (fun S73 => ob3 (cells_Arena_Load S73 (-1)) (fun r97 r98 S99 => ob3 (cells_Arena_Load S99 g10) (fun r105 r106 S107 => (if r106 = (0 : Int) then some (false, S107) else some (r98 != (0 : Int), S107))))))
set_option maxRecDepth 100000 in
set_option maxHeartbeats 4000000 in
theorem plunderlaw2_fresh_iface_Arena_ok {z w : World} {L : List HProp} {K : Nat} {p0 : T_cells_Arena} {p1 : Int} {p2 : List Int} {B0 : Nat} {ca1 : Option Addr} {cc2 : Nat} {ca3 : Option Addr} {cc4 : Nat} {va2 : Option Addr} {vc2 : Nat} {r0 : Bool} {q0 : T_cells_Arena} (H : plunderlaw2_fresh_iface_Arena K p0 p1 p2 = some (r0, q0)) (h : Fit z (sepL (ob96 B0 p0 ca1 cc2 ca3 cc4 :: ro2 ca1 cc2 p0.cell :: ro90 ca3 cc4 p0.log :: L)) w) (hv2 : RdRow L 1 encZ_i64 va2 p2) :
    Calls Try.prog 35 #[.iface 31 (pA B0 0), vI p1, .slice va2 p2.length vc2] w fun e w => ∃ caq0_1 : Option Addr, ∃ ccq0_2 : Nat, ∃ caq0_3 : Option Addr, ∃ ccq0_4 : Nat, e = .returned (vB r0) ∧ Fit z (sepL (ob96 B0 q0 caq0_1 ccq0_2 caq0_3 ccq0_4 :: ro2 caq0_1 ccq0_2 q0.cell :: ro90 caq0_3 ccq0_4 q0.log :: L)) w := by
 unfold plunderlaw2_fresh_iface_Arena at H
 refine enter Try.func35 rfl 131 rfl rfl [(0, .iface 31 (pA B0 0)), (1, vI p1), (2, .slice va2 p2.length vc2)] ⟨rfl, rfl, rfl, trivial⟩ ?_
 intro j a hr
 refine sr ?_
 refine ov hr (vB false) (by kernel_rfl) ?_; clear hr a; intro a hr
 refine ln ?_
 refine sr ?_
 refine ov hr (vI 0) (by kernel_rfl) ?_; clear hr a; intro a hr
 refine ln ?_
 replace H := jd2 H; obtain ⟨o12, H, hK11⟩ := H
 refine cut_rule (β := Unit) (fun _ a w => ∃ ca6 : Option Addr, ∃ cc7 : Nat, ∃ ca8 : Option Addr, ∃ cc9 : Nat, ∃ S5 : T_cells_Arena, ∃ g10 : Int, .inl (S5, g10) = o12 ∧ ∃ j, Rep 131 (lk [(0, .iface 31 (pA B0 0)), (7, vI g10)] j) a ∧ Fit z (sepL (ob96 B0 S5 ca6 cc7 ca8 cc9 :: ro2 ca6 cc7 S5.cell :: ro90 ca8 cc9 S5.log :: L)) w) ?_ ?_
 ·
  refine sr ?_
  refine ov hr (vI 0) (by kernel_rfl) ?_; clear hr a; intro a hr
  refine ln ?_
  refine wp_block ?_
  replace hr := hr.fold2 [(0, .iface 31 (pA B0 0)), (1, vI p1), (2, .slice va2 p2.length vc2), (7, vI 0), (8, vI 0)] (by kernel_rfl); obtain ⟨j, hr⟩ := hr
  refine loop_rule (β := Nat) id (fun m a w => ∃ ca14 : Option Addr, ∃ cc15 : Nat, ∃ ca16 : Option Addr, ∃ cc17 : Nat, ∃ S13 : T_cells_Arena, ∃ g18 : Int, ∃ g19 : Int, (plunderlaw2_fresh_iface_Arena_l1 K p1 p2 m S13 g18 g19) = some o12 ∧ ∃ j, Rep 131 (lk [(0, .iface 31 (pA B0 0)), (1, vI p1), (2, .slice va2 p2.length vc2), (7, vI g18), (8, vI g19)] j) a ∧ Fit z (sepL (ob96 B0 S13 ca14 cc15 ca16 cc17 :: ro2 ca14 cc15 S13.cell :: ro90 ca16 cc17 S13.log :: L)) w) K ⟨ca1, cc2, ca3, cc4, p0, 0, 0, H, j, hr, h⟩ ?_
  clear h hr a H; rintro k1 a w ⟨ca14, cc15, ca16, cc17, S13, g18, g19, H, j, hr, h⟩
  cases k1 with
  | zero => exact absurd H (by simp [plunderlaw2_fresh_iface_Arena_l1])
  | succ k1 =>
   rw [plunderlaw2_fresh_iface_Arena_l1] at H
   refine wp_seq ?_
   refine sr ?_
   refine ovs [23, 24, 25, 26] [vI g19, .slice va2 p2.length vc2, vI ((p2.length : Nat) : Int), vB (decide (g19 < ((p2.length : Nat) : Int)))] hr ⟨rfl, rfl⟩ (by kernel_rfl) ?_; clear hr a; intro a hr
   refine ln ?_
   by_cases c20 : g19 < ((p2.length : Nat) : Int)
   ·
    replace H := ifT c20 H
    refine cond_tt hr (b := (decide (g19 < ((p2.length : Nat) : Int)))) (decide_eq_true c20) ?_
    refine wp_skip ?_
    refine then_normal ?_
    replace H := jd2 H; obtain ⟨o28, H, hK27⟩ := H
    refine cut_rule (β := Unit) (fun _ a w => ∃ ca22 : Option Addr, ∃ cc23 : Nat, ∃ ca24 : Option Addr, ∃ cc25 : Nat, ∃ S21 : T_cells_Arena, ∃ g26 : Int, .inl (S21, g26) = o28 ∧ ∃ j, Rep 131 (lk [(0, .iface 31 (pA B0 0)), (1, vI p1), (2, .slice va2 p2.length vc2), (7, vI g26), (8, vI g19)] j) a ∧ Fit z (sepL (ob96 B0 S21 ca22 cc23 ca24 cc25 :: ro2 ca22 cc23 S21.cell :: ro90 ca24 cc25 S21.log :: L)) w) ?_ ?_
    ·
     refine wp_block ?_
     refine sr ?_
     replace H := gd H; obtain ⟨c29, H⟩ := H
     refine ovs [29, 30] [.slice va2 p2.length vc2, vI g19] hr ⟨rfl, rfl⟩ (by kernel_rfl) ?_; clear hr a; intro a hr
     refine opv (wn rfl) hr (pA (blk va2) (offs va2 + g19.toNat * 1)) (ri_rd (k := .i64) (E := 3) (cc := vc2) rfl (by kernel_rfl) (by kernel_rfl) rfl (by kernel_rfl) (by kernel_rfl) hv2 c29) ?_; clear hr a; intro a hr
     refine ld (wn rfl) hr (vI (at_ p2 g19.toNat)) (hv2.cell c29 (h.dn 3) 0 rfl) ?_; clear hr a; intro a hr
     refine ov hr (vI (at_ p2 g19.toNat)) (by kernel_rfl) ?_; clear hr a; intro a hr
     refine ln ?_
     refine sr ?_
     replace H := bd3 H; obtain ⟨r30, r31, S32, e33, H⟩ := H
     refine ovs [34, 35] [.iface 31 (pA B0 0), vI (at_ p2 g19.toNat)] hr ⟨rfl, rfl⟩ (by kernel_rfl) ?_; clear hr a; intro a hr
     have hc := cells_Arena_Reserve_ok (H := e33) (h := h)
     refine op_call (wn rfl) rfl rfl hr (f := 20) (args := #[pA B0 0, vI (at_ p2 g19.toNat)]) (by kernel_rfl) hc ?_; clear hc h
     rintro _ w ⟨caq34, ccq35, caq36, ccq37, rfl, h⟩; refine ⟨_, rfl, ?_⟩
     clear hr a; intro a hr
     refine ovs [33, 37, 38, 10, 11] [.tuple #[vI r30, vI r31], vI r30, vI r31, vI r30, vI r31] hr ⟨rfl, rfl⟩ (by kernel_rfl) ?_; clear hr a; intro a hr
     refine ln ?_
     refine wp_seq ?_
     refine sr ?_
     refine ovs [39, 40, 41] [vI (at_ p2 g19.toNat), vB (decide ((at_ p2 g19.toNat) < (1 : Int))), vB (decide ((at_ p2 g19.toNat) < (1 : Int)))] hr ⟨rfl, rfl⟩ (by kernel_rfl) ?_; clear hr a; intro a hr
     by_cases c38 : (at_ p2 g19.toNat) < (1 : Int)
     ·
      replace H := ifT c38 H
      refine offg (wgt hr (decide_eq_true c38)) hr ?_; clear hr a; intro a hr
      refine offg (wgt hr (decide_eq_true c38)) hr ?_; clear hr a; intro a hr
      refine offg (wgt hr (decide_eq_true c38)) hr ?_; clear hr a; intro a hr
      refine offg (wgt hr (decide_eq_true c38)) hr ?_; clear hr a; intro a hr
      refine offg (wgt hr (decide_eq_true c38)) hr ?_; clear hr a; intro a hr
      refine opv (wn rfl) hr (vB true) (rp_t (b := (decide ((at_ p2 g19.toNat) < (1 : Int)))) rfl (by kernel_rfl) (decide_eq_true c38) (by kernel_rfl)) ?_; clear hr a; intro a hr
      refine ln ?_
      refine cond_tt hr (b := true) rfl ?_
      refine wp_seq ?_
      refine sr ?_
      refine ovs [48, 49, 50] [vI r31, vB (r31 == (0 : Int)), vB (r31 == (0 : Int))] hr ⟨rfl, rfl⟩ (by kernel_rfl) ?_; clear hr a; intro a hr
      by_cases c39 : r31 = (0 : Int)
      ·
       replace H := ifT c39 H
       refine offg (wgt hr (beq_iff_eq.mpr c39)) hr ?_; clear hr a; intro a hr
       refine offg (wgt hr (beq_iff_eq.mpr c39)) hr ?_; clear hr a; intro a hr
       refine opv (wn rfl) hr (vB true) (rp_t (b := (r31 == (0 : Int))) rfl (by kernel_rfl) (beq_iff_eq.mpr c39) (by kernel_rfl)) ?_; clear hr a; intro a hr
       refine ln ?_
       refine cond_tt hr (b := true) rfl ?_
       refine sr ?_
       refine ov hr (vB false) (by kernel_rfl) ?_; clear hr a; intro a hr
       refine ln ?_
       refine wp_ret ?_
       refine then_ret ?_
       refine then_ret ?_
       refine blk_ret ?_
       refine then_ret ?_
       refine then_ret ?_
       refine blk_ret ?_
       refine then_ret ?_
       refine end_ret1 (v := vB false) rfl hr (by kernel_rfl) ?_
       replace H := jx2 H hK27
       replace H := jx2 H hK11
       replace H := ej2 H; obtain ⟨rfl, rfl⟩ := H
       exact ⟨caq34, ccq35, caq36, ccq37, rfl, h⟩
      ·
       replace H := ifF c39 H
       refine opv (wgt hr (beq_eq_false_iff_ne.mpr c39)) hr (vI r30) (by kernel_rfl) ?_; clear hr a; intro a hr
       refine opv (wgt hr (beq_eq_false_iff_ne.mpr c39)) hr (vB (r30 != (0 : Int))) (by kernel_rfl) ?_; clear hr a; intro a hr
       refine opv (wn rfl) hr (vB (r30 != (0 : Int))) (rp_f (b := (r31 == (0 : Int))) rfl (by kernel_rfl) (beq_eq_false_iff_ne.mpr c39) (by kernel_rfl)) ?_; clear hr a; intro a hr
       refine ln ?_
       by_cases c40 : r30 = (0 : Int)
       ·
        replace H := ifT c40 H
        refine cond_ff hr (b := (r30 != (0 : Int))) (bne_eq_false_iff_eq.mpr c40) ?_
        refine wp_skip ?_
        refine then_normal ?_
        refine wp_exit ?_
        refine then_exit ?_
        refine blk_here ?_
        refine then_normal ?_
        replace hr := hr.fold2 [(0, .iface 31 (pA B0 0)), (1, vI p1), (2, .slice va2 p2.length vc2), (7, vI g18), (8, vI g19)] (by kernel_rfl); obtain ⟨j, hr⟩ := hr
        exact ⟨(), caq34, ccq35, caq36, ccq37, S32, g18, sinj H, j, hr, h⟩
       ·
        replace H := ifF c40 H
        refine cond_tt hr (b := (r30 != (0 : Int))) (bne_iff_ne.mpr c40) ?_
        refine sr ?_
        refine ov hr (vB false) (by kernel_rfl) ?_; clear hr a; intro a hr
        refine ln ?_
        refine wp_ret ?_
        refine then_ret ?_
        refine then_ret ?_
        refine blk_ret ?_
        refine then_ret ?_
        refine then_ret ?_
        refine blk_ret ?_
        refine then_ret ?_
        refine end_ret1 (v := vB false) rfl hr (by kernel_rfl) ?_
        replace H := jx2 H hK27
        replace H := jx2 H hK11
        replace H := ej2 H; obtain ⟨rfl, rfl⟩ := H
        exact ⟨caq34, ccq35, caq36, ccq37, rfl, h⟩
     ·
      replace H := ifF c38 H
      refine opv (wgt hr (decide_eq_false c38)) hr (vI (at_ p2 g19.toNat)) (by kernel_rfl) ?_; clear hr a; intro a hr
      refine opv (wgt hr (decide_eq_false c38)) hr (vI p1) (by kernel_rfl) ?_; clear hr a; intro a hr
      refine opv (wgt hr (decide_eq_false c38)) hr (vI g18) (by kernel_rfl) ?_; clear hr a; intro a hr
      refine opv (wgt hr (decide_eq_false c38)) hr (vI (wi (p1 - g18))) (by kernel_rfl) ?_; clear hr a; intro a hr
      refine opv (wgt hr (decide_eq_false c38)) hr (vB (decide ((at_ p2 g19.toNat) > (wi (p1 - g18))))) (by kernel_rfl) ?_; clear hr a; intro a hr
      refine opv (wn rfl) hr (vB (decide ((at_ p2 g19.toNat) > (wi (p1 - g18))))) (rp_f (b := (decide ((at_ p2 g19.toNat) < (1 : Int)))) rfl (by kernel_rfl) (decide_eq_false c38) (by kernel_rfl)) ?_; clear hr a; intro a hr
      refine ln ?_
      by_cases c41 : (at_ p2 g19.toNat) > (wi (p1 - g18))
      ·
       replace H := ifT c41 H
       refine cond_tt hr (b := (decide ((at_ p2 g19.toNat) > (wi (p1 - g18))))) (decide_eq_true c41) ?_
       refine wp_seq ?_
       refine sr ?_
       refine ovs [48, 49, 50] [vI r31, vB (r31 == (0 : Int)), vB (r31 == (0 : Int))] hr ⟨rfl, rfl⟩ (by kernel_rfl) ?_; clear hr a; intro a hr
       by_cases c42 : r31 = (0 : Int)
       ·
        replace H := ifT c42 H
        refine offg (wgt hr (beq_iff_eq.mpr c42)) hr ?_; clear hr a; intro a hr
        refine offg (wgt hr (beq_iff_eq.mpr c42)) hr ?_; clear hr a; intro a hr
        refine opv (wn rfl) hr (vB true) (rp_t (b := (r31 == (0 : Int))) rfl (by kernel_rfl) (beq_iff_eq.mpr c42) (by kernel_rfl)) ?_; clear hr a; intro a hr
        refine ln ?_
        refine cond_tt hr (b := true) rfl ?_
        refine sr ?_
        refine ov hr (vB false) (by kernel_rfl) ?_; clear hr a; intro a hr
        refine ln ?_
        refine wp_ret ?_
        refine then_ret ?_
        refine then_ret ?_
        refine blk_ret ?_
        refine then_ret ?_
        refine then_ret ?_
        refine blk_ret ?_
        refine then_ret ?_
        refine end_ret1 (v := vB false) rfl hr (by kernel_rfl) ?_
        replace H := jx2 H hK27
        replace H := jx2 H hK11
        replace H := ej2 H; obtain ⟨rfl, rfl⟩ := H
        exact ⟨caq34, ccq35, caq36, ccq37, rfl, h⟩
       ·
        replace H := ifF c42 H
        refine opv (wgt hr (beq_eq_false_iff_ne.mpr c42)) hr (vI r30) (by kernel_rfl) ?_; clear hr a; intro a hr
        refine opv (wgt hr (beq_eq_false_iff_ne.mpr c42)) hr (vB (r30 != (0 : Int))) (by kernel_rfl) ?_; clear hr a; intro a hr
        refine opv (wn rfl) hr (vB (r30 != (0 : Int))) (rp_f (b := (r31 == (0 : Int))) rfl (by kernel_rfl) (beq_eq_false_iff_ne.mpr c42) (by kernel_rfl)) ?_; clear hr a; intro a hr
        refine ln ?_
        by_cases c43 : r30 = (0 : Int)
        ·
         replace H := ifT c43 H
         refine cond_ff hr (b := (r30 != (0 : Int))) (bne_eq_false_iff_eq.mpr c43) ?_
         refine wp_skip ?_
         refine then_normal ?_
         refine wp_exit ?_
         refine then_exit ?_
         refine blk_here ?_
         refine then_normal ?_
         replace hr := hr.fold2 [(0, .iface 31 (pA B0 0)), (1, vI p1), (2, .slice va2 p2.length vc2), (7, vI g18), (8, vI g19)] (by kernel_rfl); obtain ⟨j, hr⟩ := hr
         exact ⟨(), caq34, ccq35, caq36, ccq37, S32, g18, sinj H, j, hr, h⟩
        ·
         replace H := ifF c43 H
         refine cond_tt hr (b := (r30 != (0 : Int))) (bne_iff_ne.mpr c43) ?_
         refine sr ?_
         refine ov hr (vB false) (by kernel_rfl) ?_; clear hr a; intro a hr
         refine ln ?_
         refine wp_ret ?_
         refine then_ret ?_
         refine then_ret ?_
         refine blk_ret ?_
         refine then_ret ?_
         refine then_ret ?_
         refine blk_ret ?_
         refine then_ret ?_
         refine end_ret1 (v := vB false) rfl hr (by kernel_rfl) ?_
         replace H := jx2 H hK27
         replace H := jx2 H hK11
         replace H := ej2 H; obtain ⟨rfl, rfl⟩ := H
         exact ⟨caq34, ccq35, caq36, ccq37, rfl, h⟩
      ·
       replace H := ifF c41 H
       refine cond_ff hr (b := (decide ((at_ p2 g19.toNat) > (wi (p1 - g18))))) (decide_eq_false c41) ?_
       refine wp_skip ?_
       refine then_normal ?_
       replace H := jd0 H; obtain ⟨o45, H, hK44⟩ := H
       refine cut_rule (β := Unit) (fun _ a w => .inl () = o45 ∧ ∃ j, Rep 131 (lk [(0, .iface 31 (pA B0 0)), (1, vI p1), (2, .slice va2 p2.length vc2), (7, vI g18), (8, vI g19), (9, vI (at_ p2 g19.toNat)), (10, vI r30), (42, vI (at_ p2 g19.toNat)), (43, vI p1), (44, vI g18), (45, vI (wi (p1 - g18))), (46, vB (decide ((at_ p2 g19.toNat) > (wi (p1 - g18))))), (57, vI r30), (58, vI g18), (59, vB (r30 != g18))] j) a ∧ Fit z (sepL (ob96 B0 S32 caq34 ccq35 caq36 ccq37 :: ro2 caq34 ccq35 S32.cell :: ro90 caq36 ccq37 S32.log :: L)) w) ?_ ?_
       ·
        refine sr ?_
        refine ovs [54, 55, 56] [vI r31, vB (r31 != (0 : Int)), vB (r31 != (0 : Int))] hr ⟨rfl, rfl⟩ (by kernel_rfl) ?_; clear hr a; intro a hr
        by_cases c46 : r31 = (0 : Int)
        ·
         replace H := ifT c46 H
         refine opv (wgt hr (bne_eq_false_iff_eq.mpr c46)) hr (vI r30) (by kernel_rfl) ?_; clear hr a; intro a hr
         refine opv (wgt hr (bne_eq_false_iff_eq.mpr c46)) hr (vI g18) (by kernel_rfl) ?_; clear hr a; intro a hr
         refine opv (wgt hr (bne_eq_false_iff_eq.mpr c46)) hr (vB (r30 != g18)) (by kernel_rfl) ?_; clear hr a; intro a hr
         refine opv (wn rfl) hr (vB (r30 != g18)) (rp_f (b := (r31 != (0 : Int))) rfl (by kernel_rfl) (bne_eq_false_iff_eq.mpr c46) (by kernel_rfl)) ?_; clear hr a; intro a hr
         refine ln ?_
         by_cases c47 : r30 = g18
         ·
          replace H := ifT c47 H
          refine cond_ff hr (b := (r30 != g18)) (bne_eq_false_iff_eq.mpr c47) ?_
          refine wp_skip ?_
          refine then_normal ?_
          replace hr := hr.fold2 [(0, .iface 31 (pA B0 0)), (1, vI p1), (2, .slice va2 p2.length vc2), (7, vI g18), (8, vI g19), (9, vI (at_ p2 g19.toNat)), (10, vI r30), (42, vI (at_ p2 g19.toNat)), (43, vI p1), (44, vI g18), (45, vI (wi (p1 - g18))), (46, vB (decide ((at_ p2 g19.toNat) > (wi (p1 - g18))))), (57, vI r30), (58, vI g18), (59, vB (r30 != g18))] (by kernel_rfl); obtain ⟨j, hr⟩ := hr
          exact ⟨(), sinj H, j, hr, h⟩
         ·
          replace H := ifF c47 H
          refine cond_tt hr (b := (r30 != g18)) (bne_iff_ne.mpr c47) ?_
          refine sr ?_
          refine ov hr (vB false) (by kernel_rfl) ?_; clear hr a; intro a hr
          refine ln ?_
          refine wp_ret ?_
          refine then_ret ?_
          refine blk_ret ?_
          refine then_ret ?_
          refine then_ret ?_
          refine blk_ret ?_
          refine then_ret ?_
          refine end_ret1 (v := vB false) rfl hr (by kernel_rfl) ?_
          replace H := jx0 H hK44
          replace H := jx2 H hK27
          replace H := jx2 H hK11
          replace H := ej2 H; obtain ⟨rfl, rfl⟩ := H
          exact ⟨caq34, ccq35, caq36, ccq37, rfl, h⟩
        ·
         replace H := ifF c46 H
         refine offg (wgt hr (bne_iff_ne.mpr c46)) hr ?_; clear hr a; intro a hr
         refine offg (wgt hr (bne_iff_ne.mpr c46)) hr ?_; clear hr a; intro a hr
         refine offg (wgt hr (bne_iff_ne.mpr c46)) hr ?_; clear hr a; intro a hr
         refine opv (wn rfl) hr (vB true) (rp_t (b := (r31 != (0 : Int))) rfl (by kernel_rfl) (bne_iff_ne.mpr c46) (by kernel_rfl)) ?_; clear hr a; intro a hr
         refine ln ?_
         refine cond_tt hr (b := true) rfl ?_
         refine sr ?_
         refine ov hr (vB false) (by kernel_rfl) ?_; clear hr a; intro a hr
         refine ln ?_
         refine wp_ret ?_
         refine then_ret ?_
         refine blk_ret ?_
         refine then_ret ?_
         refine then_ret ?_
         refine blk_ret ?_
         refine then_ret ?_
         refine end_ret1 (v := vB false) rfl hr (by kernel_rfl) ?_
         replace H := jx0 H hK44
         replace H := jx2 H hK27
         replace H := jx2 H hK11
         replace H := ej2 H; obtain ⟨rfl, rfl⟩ := H
         exact ⟨caq34, ccq35, caq36, ccq37, rfl, h⟩
       clear h hr a; rintro _ a w ⟨rfl, j, hr, h⟩
       replace H := jk0 hK44
       refine wp_seq ?_
       refine sr ?_
       refine ovs [61, 12] [vI r30, vI r30] hr ⟨rfl, rfl⟩ (by kernel_rfl) ?_; clear hr a; intro a hr
       refine ln ?_
       refine wp_block ?_
       replace hr := hr.fold2 [(0, .iface 31 (pA B0 0)), (1, vI p1), (2, .slice va2 p2.length vc2), (7, vI g18), (8, vI g19), (9, vI (at_ p2 g19.toNat)), (10, vI r30), (12, vI r30), (42, vI (at_ p2 g19.toNat)), (43, vI p1), (44, vI g18), (45, vI (wi (p1 - g18))), (46, vB (decide ((at_ p2 g19.toNat) > (wi (p1 - g18))))), (57, vI r30), (58, vI g18), (59, vB (r30 != g18))] (by kernel_rfl); obtain ⟨j, hr⟩ := hr
       refine loop_rule (β := Nat) id (fun m a w => ∃ ca49 : Option Addr, ∃ cc50 : Nat, ∃ ca51 : Option Addr, ∃ cc52 : Nat, ∃ S48 : T_cells_Arena, ∃ g53 : Int, (plunderlaw2_fresh_iface_Arena_l2 K p2 g18 g19 r30 m S48 g53) = some o28 ∧ ∃ j, Rep 131 (lk [(0, .iface 31 (pA B0 0)), (1, vI p1), (2, .slice va2 p2.length vc2), (7, vI g18), (8, vI g19), (9, vI (at_ p2 g19.toNat)), (10, vI r30), (12, vI g53), (42, vI (at_ p2 g19.toNat)), (43, vI p1), (44, vI g18), (45, vI (wi (p1 - g18))), (46, vB (decide ((at_ p2 g19.toNat) > (wi (p1 - g18))))), (57, vI r30), (58, vI g18), (59, vB (r30 != g18))] j) a ∧ Fit z (sepL (ob96 B0 S48 ca49 cc50 ca51 cc52 :: ro2 ca49 cc50 S48.cell :: ro90 ca51 cc52 S48.log :: L)) w) K ⟨caq34, ccq35, caq36, ccq37, S32, r30, H, j, hr, h⟩ ?_
       clear h hr a H; rintro k2 a w ⟨ca49, cc50, ca51, cc52, S48, g53, H, j, hr, h⟩
       cases k2 with
       | zero => exact absurd H (by simp [plunderlaw2_fresh_iface_Arena_l2])
       | succ k2 =>
        rw [plunderlaw2_fresh_iface_Arena_l2] at H
        refine wp_seq ?_
        refine sr ?_
        refine ovs [62, 63, 64, 65, 66] [vI g53, vI r30, vI (at_ p2 g19.toNat), vI (wi (r30 + (at_ p2 g19.toNat))), vB (decide (g53 < (wi (r30 + (at_ p2 g19.toNat)))))] hr ⟨rfl, rfl⟩ (by kernel_rfl) ?_; clear hr a; intro a hr
        refine ln ?_
        by_cases c54 : g53 < (wi (r30 + (at_ p2 g19.toNat)))
        ·
         replace H := ifT c54 H
         refine cond_tt hr (b := (decide (g53 < (wi (r30 + (at_ p2 g19.toNat)))))) (decide_eq_true c54) ?_
         refine wp_skip ?_
         refine then_normal ?_
         refine wp_seq ?_
         refine wp_block ?_
         refine sr ?_
         replace H := bd3 H; obtain ⟨r55, r56, S57, e58, H⟩ := H
         refine ovs [70, 71] [.iface 31 (pA B0 0), vI g53] hr ⟨rfl, rfl⟩ (by kernel_rfl) ?_; clear hr a; intro a hr
         have hc := cells_Arena_Load_ok (H := e58) (h := h)
         refine op_call (wn rfl) rfl rfl hr (f := 66) (args := #[pA B0 0, vI g53]) (by kernel_rfl) hc ?_; clear hc h
         rintro _ w ⟨caq59, ccq60, caq61, ccq62, rfl, h⟩; refine ⟨_, rfl, ?_⟩
         clear hr a; intro a hr
         refine ovs [69, 73, 74, 13, 14] [.tuple #[vI r55, vI r56], vI r55, vI r56, vI r55, vI r56] hr ⟨rfl, rfl⟩ (by kernel_rfl) ?_; clear hr a; intro a hr
         refine ln ?_
         refine sr ?_
         replace H := bd2 H; obtain ⟨r63, S64, e65, H⟩ := H
         refine ovs [75, 76, 77, 78, 79] [.iface 31 (pA B0 0), vI g53, vI g53, vI (wi ((3 : Int) * g53)), vI (wi ((7 : Int) + (wi ((3 : Int) * g53))))] hr ⟨rfl, rfl⟩ (by kernel_rfl) ?_; clear hr a; intro a hr
         have hc := cells_Arena_Store_ok (H := e65) (h := h)
         refine op_call (wn rfl) rfl rfl hr (f := 21) (args := #[pA B0 0, vI g53, vI (wi ((7 : Int) + (wi ((3 : Int) * g53))))]) (by kernel_rfl) hc ?_; clear hc h
         rintro _ w ⟨caq66, ccq67, caq68, ccq69, rfl, h⟩; refine ⟨_, rfl, ?_⟩
         clear hr a; intro a hr
         refine ov hr (vI r63) (by kernel_rfl) ?_; clear hr a; intro a hr
         refine ln ?_
         refine sr ?_
         refine ovs [81, 82, 83] [vI r55, vB (r55 != (0 : Int)), vB (r55 != (0 : Int))] hr ⟨rfl, rfl⟩ (by kernel_rfl) ?_; clear hr a; intro a hr
         by_cases c70 : r55 = (0 : Int)
         ·
          replace H := ifT c70 H
          refine opv (wgt hr (bne_eq_false_iff_eq.mpr c70)) hr (vI r56) (by kernel_rfl) ?_; clear hr a; intro a hr
          refine opv (wgt hr (bne_eq_false_iff_eq.mpr c70)) hr (vB (r56 != (0 : Int))) (by kernel_rfl) ?_; clear hr a; intro a hr
          refine opv (wn rfl) hr (vB (r56 != (0 : Int))) (rp_f (b := (r55 != (0 : Int))) rfl (by kernel_rfl) (bne_eq_false_iff_eq.mpr c70) (by kernel_rfl)) ?_; clear hr a; intro a hr
          refine ov hr (vB (r56 != (0 : Int))) (by kernel_rfl) ?_; clear hr a; intro a hr
          by_cases c71 : r56 = (0 : Int)
          ·
           replace H := ifT c71 H
           refine opv (wgt hr (bne_eq_false_iff_eq.mpr c71)) hr (vI r63) (by kernel_rfl) ?_; clear hr a; intro a hr
           refine opv (wgt hr (bne_eq_false_iff_eq.mpr c71)) hr (vB (r63 != (0 : Int))) (by kernel_rfl) ?_; clear hr a; intro a hr
           refine opv (wn rfl) hr (vB (r63 != (0 : Int))) (rp_f (b := (r56 != (0 : Int))) rfl (by kernel_rfl) (bne_eq_false_iff_eq.mpr c71) (by kernel_rfl)) ?_; clear hr a; intro a hr
           refine ln ?_
           by_cases c72 : r63 = (0 : Int)
           ·
            replace H := ifT c72 H
            refine cond_ff hr (b := (r63 != (0 : Int))) (bne_eq_false_iff_eq.mpr c72) ?_
            refine wp_skip ?_
            refine blk_normal ?_
            refine then_normal ?_
            refine wp_region_lit ?_
            refine ovs [67, 68, 12] [vI g53, vI (wi (g53 + (1 : Int))), vI (wi (g53 + (1 : Int)))] hr ⟨rfl, rfl⟩ (by kernel_rfl) ?_; clear hr a; intro a hr
            refine ln ?_
            replace hr := hr.fold2 [(0, .iface 31 (pA B0 0)), (1, vI p1), (2, .slice va2 p2.length vc2), (7, vI g18), (8, vI g19), (9, vI (at_ p2 g19.toNat)), (10, vI r30), (12, vI (wi (g53 + (1 : Int)))), (42, vI (at_ p2 g19.toNat)), (43, vI p1), (44, vI g18), (45, vI (wi (p1 - g18))), (46, vB (decide ((at_ p2 g19.toNat) > (wi (p1 - g18))))), (57, vI r30), (58, vI g18), (59, vB (r30 != g18))] (by kernel_rfl); obtain ⟨j, hr⟩ := hr
            exact ⟨_, ⟨caq66, ccq67, caq68, ccq69, S64, (wi (g53 + (1 : Int))), H, j, hr, h⟩, Nat.lt_succ_self _⟩
           ·
            replace H := ifF c72 H
            refine cond_tt hr (b := (r63 != (0 : Int))) (bne_iff_ne.mpr c72) ?_
            refine sr ?_
            refine ov hr (vB false) (by kernel_rfl) ?_; clear hr a; intro a hr
            refine ln ?_
            refine wp_ret ?_
            refine blk_ret ?_
            refine then_ret ?_
            refine then_ret ?_
            refine blk_ret ?_
            refine then_ret ?_
            refine blk_ret ?_
            refine then_ret ?_
            refine then_ret ?_
            refine blk_ret ?_
            refine then_ret ?_
            refine end_ret1 (v := vB false) rfl hr (by kernel_rfl) ?_
            replace H := jx2 H hK27
            replace H := jx2 H hK11
            replace H := ej2 H; obtain ⟨rfl, rfl⟩ := H
            exact ⟨caq66, ccq67, caq68, ccq69, rfl, h⟩
          ·
           replace H := ifF c71 H
           refine offg (wgt hr (bne_iff_ne.mpr c71)) hr ?_; clear hr a; intro a hr
           refine offg (wgt hr (bne_iff_ne.mpr c71)) hr ?_; clear hr a; intro a hr
           refine opv (wn rfl) hr (vB true) (rp_t (b := (r56 != (0 : Int))) rfl (by kernel_rfl) (bne_iff_ne.mpr c71) (by kernel_rfl)) ?_; clear hr a; intro a hr
           refine ln ?_
           refine cond_tt hr (b := true) rfl ?_
           refine sr ?_
           refine ov hr (vB false) (by kernel_rfl) ?_; clear hr a; intro a hr
           refine ln ?_
           refine wp_ret ?_
           refine blk_ret ?_
           refine then_ret ?_
           refine then_ret ?_
           refine blk_ret ?_
           refine then_ret ?_
           refine blk_ret ?_
           refine then_ret ?_
           refine then_ret ?_
           refine blk_ret ?_
           refine then_ret ?_
           refine end_ret1 (v := vB false) rfl hr (by kernel_rfl) ?_
           replace H := jx2 H hK27
           replace H := jx2 H hK11
           replace H := ej2 H; obtain ⟨rfl, rfl⟩ := H
           exact ⟨caq66, ccq67, caq68, ccq69, rfl, h⟩
         ·
          replace H := ifF c70 H
          refine offg (wgt hr (bne_iff_ne.mpr c70)) hr ?_; clear hr a; intro a hr
          refine offg (wgt hr (bne_iff_ne.mpr c70)) hr ?_; clear hr a; intro a hr
          refine opv (wn rfl) hr (vB true) (rp_t (b := (r55 != (0 : Int))) rfl (by kernel_rfl) (bne_iff_ne.mpr c70) (by kernel_rfl)) ?_; clear hr a; intro a hr
          refine ov hr (vB true) (by kernel_rfl) ?_; clear hr a; intro a hr
          refine offg (wgt hr (c := true) rfl) hr ?_; clear hr a; intro a hr
          refine offg (wgt hr (c := true) rfl) hr ?_; clear hr a; intro a hr
          refine ov hr (vB true) (by kernel_rfl) ?_; clear hr a; intro a hr
          refine ln ?_
          refine cond_tt hr (b := true) rfl ?_
          refine sr ?_
          refine ov hr (vB false) (by kernel_rfl) ?_; clear hr a; intro a hr
          refine ln ?_
          refine wp_ret ?_
          refine blk_ret ?_
          refine then_ret ?_
          refine then_ret ?_
          refine blk_ret ?_
          refine then_ret ?_
          refine blk_ret ?_
          refine then_ret ?_
          refine then_ret ?_
          refine blk_ret ?_
          refine then_ret ?_
          refine end_ret1 (v := vB false) rfl hr (by kernel_rfl) ?_
          replace H := jx2 H hK27
          replace H := jx2 H hK11
          replace H := ej2 H; obtain ⟨rfl, rfl⟩ := H
          exact ⟨caq66, ccq67, caq68, ccq69, rfl, h⟩
        ·
         replace H := ifF c54 H
         refine cond_ff hr (b := (decide (g53 < (wi (r30 + (at_ p2 g19.toNat)))))) (decide_eq_false c54) ?_
         refine wp_exit ?_
         refine then_exit ?_
         refine then_exit ?_
         refine blk_here ?_
         refine then_normal ?_
         refine wp_region_lit ?_
         refine ovs [91, 92, 93, 7] [vI g18, vI (at_ p2 g19.toNat), vI (wi (g18 + (at_ p2 g19.toNat))), vI (wi (g18 + (at_ p2 g19.toNat)))] hr ⟨rfl, rfl⟩ (by kernel_rfl) ?_; clear hr a; intro a hr
         refine wpList_nil ?_
         refine blk_normal ?_
         refine then_normal ?_
         replace hr := hr.fold2 [(0, .iface 31 (pA B0 0)), (1, vI p1), (2, .slice va2 p2.length vc2), (7, vI (wi (g18 + (at_ p2 g19.toNat)))), (8, vI g19)] (by kernel_rfl); obtain ⟨j, hr⟩ := hr
         exact ⟨(), ca49, cc50, ca51, cc52, S48, (wi (g18 + (at_ p2 g19.toNat))), sinj H, j, hr, h⟩
    clear h hr a; rintro _ a w ⟨ca22, cc23, ca24, cc25, S21, g26, rfl, j, hr, h⟩
    replace H := jk2 hK27
    refine wp_region_lit ?_
    refine ovs [27, 28, 8] [vI g19, vI (wi (g19 + (1 : Int))), vI (wi (g19 + (1 : Int)))] hr ⟨rfl, rfl⟩ (by kernel_rfl) ?_; clear hr a; intro a hr
    refine ln ?_
    replace hr := hr.fold2 [(0, .iface 31 (pA B0 0)), (1, vI p1), (2, .slice va2 p2.length vc2), (7, vI g26), (8, vI (wi (g19 + (1 : Int))))] (by kernel_rfl); obtain ⟨j, hr⟩ := hr
    exact ⟨_, ⟨ca22, cc23, ca24, cc25, S21, g26, (wi (g19 + (1 : Int))), H, j, hr, h⟩, Nat.lt_succ_self _⟩
   ·
    replace H := ifF c20 H
    refine cond_ff hr (b := (decide (g19 < ((p2.length : Nat) : Int)))) (decide_eq_false c20) ?_
    refine wp_exit ?_
    refine then_exit ?_
    refine then_exit ?_
    refine blk_here ?_
    refine then_normal ?_
    replace hr := hr.fold2 [(0, .iface 31 (pA B0 0)), (7, vI g18)] (by kernel_rfl); obtain ⟨j, hr⟩ := hr
    exact ⟨(), ca14, cc15, ca16, cc17, S13, g18, sinj H, j, hr, h⟩
 clear h hr a; rintro _ a w ⟨ca6, cc7, ca8, cc9, S5, g10, rfl, j, hr, h⟩
 replace H := jk2 hK11
 replace H := jd1 H; obtain ⟨o79, H, hK78⟩ := H
 refine cut_rule (β := Unit) (fun _ a w => ∃ ca74 : Option Addr, ∃ cc75 : Nat, ∃ ca76 : Option Addr, ∃ cc77 : Nat, ∃ S73 : T_cells_Arena, .inl S73 = o79 ∧ ∃ j, Rep 131 (lk [(0, .iface 31 (pA B0 0)), (7, vI g10)] j) a ∧ Fit z (sepL (ob96 B0 S73 ca74 cc75 ca76 cc77 :: ro2 ca74 cc75 S73.cell :: ro90 ca76 cc77 S73.log :: L)) w) ?_ ?_
 ·
  refine sr ?_
  refine ov hr (vI 0) (by kernel_rfl) ?_; clear hr a; intro a hr
  refine ln ?_
  refine wp_block ?_
  replace hr := hr.fold2 [(0, .iface 31 (pA B0 0)), (7, vI g10), (16, vI 0)] (by kernel_rfl); obtain ⟨j, hr⟩ := hr
  refine loop_rule (β := Nat) id (fun m a w => ∃ ca81 : Option Addr, ∃ cc82 : Nat, ∃ ca83 : Option Addr, ∃ cc84 : Nat, ∃ S80 : T_cells_Arena, ∃ g85 : Int, (plunderlaw2_fresh_iface_Arena_l3 K g10 m S80 g85) = some o79 ∧ ∃ j, Rep 131 (lk [(0, .iface 31 (pA B0 0)), (7, vI g10), (16, vI g85)] j) a ∧ Fit z (sepL (ob96 B0 S80 ca81 cc82 ca83 cc84 :: ro2 ca81 cc82 S80.cell :: ro90 ca83 cc84 S80.log :: L)) w) K ⟨ca6, cc7, ca8, cc9, S5, 0, H, j, hr, h⟩ ?_
  clear h hr a H; rintro k3 a w ⟨ca81, cc82, ca83, cc84, S80, g85, H, j, hr, h⟩
  cases k3 with
  | zero => exact absurd H (by simp [plunderlaw2_fresh_iface_Arena_l3])
  | succ k3 =>
   rw [plunderlaw2_fresh_iface_Arena_l3] at H
   refine wp_seq ?_
   refine sr ?_
   refine ovs [94, 95, 96] [vI g85, vI g10, vB (decide (g85 < g10))] hr ⟨rfl, rfl⟩ (by kernel_rfl) ?_; clear hr a; intro a hr
   refine ln ?_
   by_cases c86 : g85 < g10
   ·
    replace H := ifT c86 H
    refine cond_tt hr (b := (decide (g85 < g10))) (decide_eq_true c86) ?_
    refine wp_skip ?_
    refine then_normal ?_
    refine wp_seq ?_
    refine wp_block ?_
    refine sr ?_
    replace H := bd3 H; obtain ⟨r87, r88, S89, e90, H⟩ := H
    refine ovs [100, 101] [.iface 31 (pA B0 0), vI g85] hr ⟨rfl, rfl⟩ (by kernel_rfl) ?_; clear hr a; intro a hr
    have hc := cells_Arena_Load_ok (H := e90) (h := h)
    refine op_call (wn rfl) rfl rfl hr (f := 66) (args := #[pA B0 0, vI g85]) (by kernel_rfl) hc ?_; clear hc h
    rintro _ w ⟨caq91, ccq92, caq93, ccq94, rfl, h⟩; refine ⟨_, rfl, ?_⟩
    clear hr a; intro a hr
    refine ovs [99, 103, 104, 17, 18] [.tuple #[vI r87, vI r88], vI r87, vI r88, vI r87, vI r88] hr ⟨rfl, rfl⟩ (by kernel_rfl) ?_; clear hr a; intro a hr
    refine ln ?_
    refine sr ?_
    refine ovs [105, 106, 107] [vI r88, vB (r88 != (0 : Int)), vB (r88 != (0 : Int))] hr ⟨rfl, rfl⟩ (by kernel_rfl) ?_; clear hr a; intro a hr
    by_cases c95 : r88 = (0 : Int)
    ·
     replace H := ifT c95 H
     refine opv (wgt hr (bne_eq_false_iff_eq.mpr c95)) hr (vI r87) (by kernel_rfl) ?_; clear hr a; intro a hr
     refine opv (wgt hr (bne_eq_false_iff_eq.mpr c95)) hr (vI g85) (by kernel_rfl) ?_; clear hr a; intro a hr
     refine opv (wgt hr (bne_eq_false_iff_eq.mpr c95)) hr (vI (wi ((3 : Int) * g85))) (by kernel_rfl) ?_; clear hr a; intro a hr
     refine opv (wgt hr (bne_eq_false_iff_eq.mpr c95)) hr (vI (wi ((7 : Int) + (wi ((3 : Int) * g85))))) (by kernel_rfl) ?_; clear hr a; intro a hr
     refine opv (wgt hr (bne_eq_false_iff_eq.mpr c95)) hr (vB (r87 != (wi ((7 : Int) + (wi ((3 : Int) * g85)))))) (by kernel_rfl) ?_; clear hr a; intro a hr
     refine opv (wn rfl) hr (vB (r87 != (wi ((7 : Int) + (wi ((3 : Int) * g85)))))) (rp_f (b := (r88 != (0 : Int))) rfl (by kernel_rfl) (bne_eq_false_iff_eq.mpr c95) (by kernel_rfl)) ?_; clear hr a; intro a hr
     refine ln ?_
     by_cases c96 : r87 = (wi ((7 : Int) + (wi ((3 : Int) * g85))))
     ·
      replace H := ifT c96 H
      refine cond_ff hr (b := (r87 != (wi ((7 : Int) + (wi ((3 : Int) * g85)))))) (bne_eq_false_iff_eq.mpr c96) ?_
      refine wp_skip ?_
      refine blk_normal ?_
      refine then_normal ?_
      refine wp_region_lit ?_
      refine ovs [97, 98, 16] [vI g85, vI (wi (g85 + (1 : Int))), vI (wi (g85 + (1 : Int)))] hr ⟨rfl, rfl⟩ (by kernel_rfl) ?_; clear hr a; intro a hr
      refine ln ?_
      replace hr := hr.fold2 [(0, .iface 31 (pA B0 0)), (7, vI g10), (16, vI (wi (g85 + (1 : Int))))] (by kernel_rfl); obtain ⟨j, hr⟩ := hr
      exact ⟨_, ⟨caq91, ccq92, caq93, ccq94, S89, (wi (g85 + (1 : Int))), H, j, hr, h⟩, Nat.lt_succ_self _⟩
     ·
      replace H := ifF c96 H
      refine cond_tt hr (b := (r87 != (wi ((7 : Int) + (wi ((3 : Int) * g85)))))) (bne_iff_ne.mpr c96) ?_
      refine sr ?_
      refine ov hr (vB false) (by kernel_rfl) ?_; clear hr a; intro a hr
      refine ln ?_
      refine wp_ret ?_
      refine blk_ret ?_
      refine then_ret ?_
      refine then_ret ?_
      refine blk_ret ?_
      refine then_ret ?_
      refine end_ret1 (v := vB false) rfl hr (by kernel_rfl) ?_
      replace H := jx1 H hK78
      replace H := ej2 H; obtain ⟨rfl, rfl⟩ := H
      exact ⟨caq91, ccq92, caq93, ccq94, rfl, h⟩
    ·
     replace H := ifF c95 H
     refine offg (wgt hr (bne_iff_ne.mpr c95)) hr ?_; clear hr a; intro a hr
     refine offg (wgt hr (bne_iff_ne.mpr c95)) hr ?_; clear hr a; intro a hr
     refine offg (wgt hr (bne_iff_ne.mpr c95)) hr ?_; clear hr a; intro a hr
     refine offg (wgt hr (bne_iff_ne.mpr c95)) hr ?_; clear hr a; intro a hr
     refine offg (wgt hr (bne_iff_ne.mpr c95)) hr ?_; clear hr a; intro a hr
     refine opv (wn rfl) hr (vB true) (rp_t (b := (r88 != (0 : Int))) rfl (by kernel_rfl) (bne_iff_ne.mpr c95) (by kernel_rfl)) ?_; clear hr a; intro a hr
     refine ln ?_
     refine cond_tt hr (b := true) rfl ?_
     refine sr ?_
     refine ov hr (vB false) (by kernel_rfl) ?_; clear hr a; intro a hr
     refine ln ?_
     refine wp_ret ?_
     refine blk_ret ?_
     refine then_ret ?_
     refine then_ret ?_
     refine blk_ret ?_
     refine then_ret ?_
     refine end_ret1 (v := vB false) rfl hr (by kernel_rfl) ?_
     replace H := jx1 H hK78
     replace H := ej2 H; obtain ⟨rfl, rfl⟩ := H
     exact ⟨caq91, ccq92, caq93, ccq94, rfl, h⟩
   ·
    replace H := ifF c86 H
    refine cond_ff hr (b := (decide (g85 < g10))) (decide_eq_false c86) ?_
    refine wp_exit ?_
    refine then_exit ?_
    refine then_exit ?_
    refine blk_here ?_
    refine then_normal ?_
    replace hr := hr.fold2 [(0, .iface 31 (pA B0 0)), (7, vI g10)] (by kernel_rfl); obtain ⟨j, hr⟩ := hr
    exact ⟨(), ca81, cc82, ca83, cc84, S80, sinj H, j, hr, h⟩
 clear h hr a; rintro _ a w ⟨ca74, cc75, ca76, cc77, S73, rfl, j, hr, h⟩
 replace H := jk1 hK78
 refine sr ?_
 replace H := bd3 H; obtain ⟨r97, r98, S99, e100, H⟩ := H
 refine ov hr (.iface 31 (pA B0 0)) (by kernel_rfl) ?_; clear hr a; intro a hr
 have hc := cells_Arena_Load_ok (H := e100) (h := h)
 refine op_call (wn rfl) rfl rfl hr (f := 66) (args := #[pA B0 0, vI (-1)]) (by kernel_rfl) hc ?_; clear hc h
 rintro _ w ⟨caq101, ccq102, caq103, ccq104, rfl, h⟩; refine ⟨_, rfl, ?_⟩
 clear hr a; intro a hr
 refine ovs [114, 117, 118, 19, 20] [.tuple #[vI r97, vI r98], vI r97, vI r98, vI r97, vI r98] hr ⟨rfl, rfl⟩ (by kernel_rfl) ?_; clear hr a; intro a hr
 refine ln ?_
 refine sr ?_
 replace H := bd3 H; obtain ⟨r105, r106, S107, e108, H⟩ := H
 refine ovs [120, 121] [.iface 31 (pA B0 0), vI g10] hr ⟨rfl, rfl⟩ (by kernel_rfl) ?_; clear hr a; intro a hr
 have hc := cells_Arena_Load_ok (H := e108) (h := h)
 refine op_call (wn rfl) rfl rfl hr (f := 66) (args := #[pA B0 0, vI g10]) (by kernel_rfl) hc ?_; clear hc h
 rintro _ w ⟨caq109, ccq110, caq111, ccq112, rfl, h⟩; refine ⟨_, rfl, ?_⟩
 clear hr a; intro a hr
 refine ovs [119, 123, 124, 21, 22] [.tuple #[vI r105, vI r106], vI r105, vI r106, vI r105, vI r106] hr ⟨rfl, rfl⟩ (by kernel_rfl) ?_; clear hr a; intro a hr
 refine ln ?_
 refine sr ?_
 refine ovs [125, 126, 127] [vI r106, vB (r106 != (0 : Int)), vB (r106 != (0 : Int))] hr ⟨rfl, rfl⟩ (by kernel_rfl) ?_; clear hr a; intro a hr
 by_cases c113 : r106 = (0 : Int)
 ·
  replace H := ifT c113 H
  refine offg (wgt hr (bne_eq_false_iff_eq.mpr c113)) hr ?_; clear hr a; intro a hr
  refine offg (wgt hr (bne_eq_false_iff_eq.mpr c113)) hr ?_; clear hr a; intro a hr
  refine opv (wn rfl) hr (vB false) (rp_f (b := (r106 != (0 : Int))) rfl (by kernel_rfl) (bne_eq_false_iff_eq.mpr c113) (by kernel_rfl)) ?_; clear hr a; intro a hr
  refine ov hr (vB false) (by kernel_rfl) ?_; clear hr a; intro a hr
  refine ln ?_
  refine wp_ret ?_
  refine end_ret1 (v := vB false) rfl hr (by kernel_rfl) ?_
  replace H := ej2 H; obtain ⟨rfl, rfl⟩ := H
  exact ⟨caq109, ccq110, caq111, ccq112, rfl, h⟩
 ·
  replace H := ifF c113 H
  refine opv (wgt hr (bne_iff_ne.mpr c113)) hr (vI r98) (by kernel_rfl) ?_; clear hr a; intro a hr
  refine opv (wgt hr (bne_iff_ne.mpr c113)) hr (vB (r98 != (0 : Int))) (by kernel_rfl) ?_; clear hr a; intro a hr
  refine opv (wn rfl) hr (vB (r98 != (0 : Int))) (rp_t (b := (r106 != (0 : Int))) rfl (by kernel_rfl) (bne_iff_ne.mpr c113) (by kernel_rfl)) ?_; clear hr a; intro a hr
  refine ov hr (vB (r98 != (0 : Int))) (by kernel_rfl) ?_; clear hr a; intro a hr
  refine ln ?_
  refine wp_ret ?_
  refine end_ret1 (v := vB (r98 != (0 : Int))) rfl hr (by kernel_rfl) ?_
  replace H := ej2 H; obtain ⟨rfl, rfl⟩ := H
  exact ⟨caq109, ccq110, caq111, ccq112, rfl, h⟩

/-- plunder/plunderlaw2.CellsFresh -/
def plunderlaw2_CellsFresh (K : Nat) (p0 : Bool) (p1 : Int) (p2 : List Int) : Option (Bool) :=
  ob1 (plunderlaw2_mod p1 4097) (fun r1 => (if p0 = true then ob2 (cells_NewShared r1) (fun r4 r5 => (match r4 with | some S7 => (if r5 = (0 : Int) then ob2 (plunderlaw2_fresh_iface K S7 r1 p2) (fun r12 S13 => some r12) else some false) | none => (if r5 = (0 : Int) then some false else some false))) else ob2 (cells_New r1) (fun r18 r19 => (match r18 with | some S21 => (if r19 = (0 : Int) then ob2 (plunderlaw2_fresh_iface_Arena K S21 r1 p2) (fun r28 S29 => some r28) else some false) | none => (if r19 = (0 : Int) then some false else some false)))))
set_option maxRecDepth 100000 in
set_option maxHeartbeats 4000000 in
theorem plunderlaw2_CellsFresh_ok {z w : World} {L : List HProp} {K : Nat} {p0 : Bool} {p1 : Int} {p2 : List Int} {va2 : Option Addr} {vc2 : Nat} {r0 : Bool} (H : plunderlaw2_CellsFresh K p0 p1 p2 = some r0) (h : Fit z (sepL (L)) w) (hv2 : RdRow L 1 encZ_i64 va2 p2) :
    Calls Try.prog 10 #[vB p0, vI p1, .slice va2 p2.length vc2] w fun e w => e = .returned (vB r0) ∧ Fit z (sepL (L)) w := by
 unfold plunderlaw2_CellsFresh at H
 refine enter Try.func10 rfl 50 rfl rfl [(0, vB p0), (1, vI p1), (2, .slice va2 p2.length vc2)] ⟨rfl, rfl, rfl, trivial⟩ ?_
 intro j a hr
 refine sr ?_
 refine ov hr (vB false) (by kernel_rfl) ?_; clear hr a; intro a hr
 refine ln ?_
 refine sr ?_
 replace H := bd1 H; obtain ⟨r1, e2, H⟩ := H
 refine ov hr (vI p1) (by kernel_rfl) ?_; clear hr a; intro a hr
 have hc := plunderlaw2_mod_ok (H := e2) (h := h)
 refine op_call (wn rfl) rfl rfl hr (f := 23) (args := #[vI p1, vI 4097]) (by kernel_rfl) hc ?_; clear hc h
 rintro _ w ⟨rfl, h⟩; refine ⟨_, rfl, ?_⟩
 clear hr a; intro a hr
 refine ov hr (vI r1) (by kernel_rfl) ?_; clear hr a; intro a hr
 refine ln ?_
 refine wp_seq ?_
 refine sr ?_
 refine ov hr (vB p0) (by kernel_rfl) ?_; clear hr a; intro a hr
 refine ln ?_
 by_cases c3 : p0 = true
 ·
  replace H := ifT c3 H
  refine cond_tt hr (b := p0) (c3) ?_
  refine sr ?_
  replace H := bd2 H; obtain ⟨r4, r5, e6, H⟩ := H
  refine ov hr (vI r1) (by kernel_rfl) ?_; clear hr a; intro a hr
  cases r4 with
  | some S7 =>
   have hc := cells_NewShared_ok0 (H := e6) (h := h)
   refine op_call (wn rfl) rfl rfl hr (f := 28) (args := #[vI r1]) (by kernel_rfl) hc ?_; clear hc h
   rintro _ w ⟨Bn8, car9, ccr10, rfl, h⟩; refine ⟨_, rfl, ?_⟩
   clear hr a; intro a hr
   refine ovs [14, 17, 18, 7, 8] [.tuple #[pA Bn8 0, vI r5], pA Bn8 0, vI r5, pA Bn8 0, vI r5] hr ⟨rfl, rfl⟩ (by kernel_rfl) ?_; clear hr a; intro a hr
   refine ln ?_
   refine sr ?_
   refine ovs [19, 20, 21] [vI r5, vB (r5 == (0 : Int)), vB (r5 == (0 : Int))] hr ⟨rfl, rfl⟩ (by kernel_rfl) ?_; clear hr a; intro a hr
   by_cases c11 : r5 = (0 : Int)
   ·
    replace H := ifT c11 H
    refine opv (wgt hr (beq_iff_eq.mpr c11)) hr (pA Bn8 0) (by kernel_rfl) ?_; clear hr a; intro a hr
    refine opv (wgt hr (beq_iff_eq.mpr c11)) hr (vB true) (by kernel_rfl) ?_; clear hr a; intro a hr
    refine opv (wn rfl) hr (vB true) (rp_t (b := (r5 == (0 : Int))) rfl (by kernel_rfl) (beq_iff_eq.mpr c11) (by kernel_rfl)) ?_; clear hr a; intro a hr
    refine ov hr (vB true) (by kernel_rfl) ?_; clear hr a; intro a hr
    refine opv (wgt hr (c := true) rfl) hr (pA Bn8 0) (by kernel_rfl) ?_; clear hr a; intro a hr
    refine opv (wgt hr (c := true) rfl) hr (.iface 51 (pA Bn8 0)) (by kernel_rfl) ?_; clear hr a; intro a hr
    refine opv (wgt hr (c := true) rfl) hr (vI r1) (by kernel_rfl) ?_; clear hr a; intro a hr
    refine opv (wgt hr (c := true) rfl) hr (.slice va2 p2.length vc2) (by kernel_rfl) ?_; clear hr a; intro a hr
    replace H := bd2 H; obtain ⟨r12, S13, e14, H⟩ := H
    have hc := plunderlaw2_fresh_iface_ok (va2 := va2) (vc2 := vc2) (hv2 := (RdRow.up 0 hv2)) (H := e14) (h := h)
    refine op_call (wgt hr (c := true) rfl) rfl rfl hr (f := 35) (args := #[.iface 51 (pA Bn8 0), vI r1, .slice va2 p2.length vc2]) (by kernel_rfl) hc ?_; clear hc h
    rintro _ w ⟨caq15, ccq16, rfl, h⟩; refine ⟨_, rfl, ?_⟩
    clear hr a; intro a hr
    refine ovs [31, 6] [vB r12, vB r12] hr ⟨rfl, rfl⟩ (by kernel_rfl) ?_; clear hr a; intro a hr
    refine ln ?_
    refine wp_ret ?_
    refine then_ret ?_
    refine end_ret1 (v := vB r12) rfl hr (by kernel_rfl) ?_
    replace h : Fit z (sepL (L)) _ := h.sel 2 [] (by kernel_rfl) (by kernel_rfl)
    replace H := ej1 H; subst H
    exact ⟨rfl, h⟩
   ·
    replace H := ifF c11 H
    refine offg (wgt hr (beq_eq_false_iff_ne.mpr c11)) hr ?_; clear hr a; intro a hr
    refine offg (wgt hr (beq_eq_false_iff_ne.mpr c11)) hr ?_; clear hr a; intro a hr
    refine opv (wn rfl) hr (vB false) (rp_f (b := (r5 == (0 : Int))) rfl (by kernel_rfl) (beq_eq_false_iff_ne.mpr c11) (by kernel_rfl)) ?_; clear hr a; intro a hr
    refine ov hr (vB false) (by kernel_rfl) ?_; clear hr a; intro a hr
    refine offg (wgt hr (c := false) rfl) hr ?_; clear hr a; intro a hr
    refine offg (wgt hr (c := false) rfl) hr ?_; clear hr a; intro a hr
    refine offg (wgt hr (c := false) rfl) hr ?_; clear hr a; intro a hr
    refine offg (wgt hr (c := false) rfl) hr ?_; clear hr a; intro a hr
    refine offg (wgt hr (c := false) rfl) hr ?_; clear hr a; intro a hr
    refine ovs [31, 6] [vB false, vB false] hr ⟨rfl, rfl⟩ (by kernel_rfl) ?_; clear hr a; intro a hr
    refine ln ?_
    refine wp_ret ?_
    refine then_ret ?_
    refine end_ret1 (v := vB false) rfl hr (by kernel_rfl) ?_
    replace h : Fit z (sepL (L)) _ := h.sel 2 [] (by kernel_rfl) (by kernel_rfl)
    replace H := ej1 H; subst H
    exact ⟨rfl, h⟩
  | none =>
   have hc := cells_NewShared_ok1 (H := e6) (h := h)
   refine op_call (wn rfl) rfl rfl hr (f := 28) (args := #[vI r1]) (by kernel_rfl) hc ?_; clear hc h
   rintro _ w ⟨rfl, h⟩; refine ⟨_, rfl, ?_⟩
   clear hr a; intro a hr
   refine ovs [14, 17, 18, 7, 8] [.tuple #[pN, vI r5], pN, vI r5, pN, vI r5] hr ⟨rfl, rfl⟩ (by kernel_rfl) ?_; clear hr a; intro a hr
   refine ln ?_
   refine sr ?_
   refine ovs [19, 20, 21] [vI r5, vB (r5 == (0 : Int)), vB (r5 == (0 : Int))] hr ⟨rfl, rfl⟩ (by kernel_rfl) ?_; clear hr a; intro a hr
   by_cases c17 : r5 = (0 : Int)
   ·
    replace H := ifT c17 H
    refine opv (wgt hr (beq_iff_eq.mpr c17)) hr (pN) (by kernel_rfl) ?_; clear hr a; intro a hr
    refine opv (wgt hr (beq_iff_eq.mpr c17)) hr (vB false) (by kernel_rfl) ?_; clear hr a; intro a hr
    refine opv (wn rfl) hr (vB false) (rp_t (b := (r5 == (0 : Int))) rfl (by kernel_rfl) (beq_iff_eq.mpr c17) (by kernel_rfl)) ?_; clear hr a; intro a hr
    refine ov hr (vB false) (by kernel_rfl) ?_; clear hr a; intro a hr
    refine offg (wgt hr (c := false) rfl) hr ?_; clear hr a; intro a hr
    refine offg (wgt hr (c := false) rfl) hr ?_; clear hr a; intro a hr
    refine offg (wgt hr (c := false) rfl) hr ?_; clear hr a; intro a hr
    refine offg (wgt hr (c := false) rfl) hr ?_; clear hr a; intro a hr
    refine offg (wgt hr (c := false) rfl) hr ?_; clear hr a; intro a hr
    refine ovs [31, 6] [vB false, vB false] hr ⟨rfl, rfl⟩ (by kernel_rfl) ?_; clear hr a; intro a hr
    refine ln ?_
    refine wp_ret ?_
    refine then_ret ?_
    refine end_ret1 (v := vB false) rfl hr (by kernel_rfl) ?_
    replace H := ej1 H; subst H
    exact ⟨rfl, h⟩
   ·
    replace H := ifF c17 H
    refine offg (wgt hr (beq_eq_false_iff_ne.mpr c17)) hr ?_; clear hr a; intro a hr
    refine offg (wgt hr (beq_eq_false_iff_ne.mpr c17)) hr ?_; clear hr a; intro a hr
    refine opv (wn rfl) hr (vB false) (rp_f (b := (r5 == (0 : Int))) rfl (by kernel_rfl) (beq_eq_false_iff_ne.mpr c17) (by kernel_rfl)) ?_; clear hr a; intro a hr
    refine ov hr (vB false) (by kernel_rfl) ?_; clear hr a; intro a hr
    refine offg (wgt hr (c := false) rfl) hr ?_; clear hr a; intro a hr
    refine offg (wgt hr (c := false) rfl) hr ?_; clear hr a; intro a hr
    refine offg (wgt hr (c := false) rfl) hr ?_; clear hr a; intro a hr
    refine offg (wgt hr (c := false) rfl) hr ?_; clear hr a; intro a hr
    refine offg (wgt hr (c := false) rfl) hr ?_; clear hr a; intro a hr
    refine ovs [31, 6] [vB false, vB false] hr ⟨rfl, rfl⟩ (by kernel_rfl) ?_; clear hr a; intro a hr
    refine ln ?_
    refine wp_ret ?_
    refine then_ret ?_
    refine end_ret1 (v := vB false) rfl hr (by kernel_rfl) ?_
    replace H := ej1 H; subst H
    exact ⟨rfl, h⟩
 ·
  replace H := ifF c3 H
  refine cond_ff hr (b := p0) (bF c3) ?_
  refine wp_skip ?_
  refine then_normal ?_
  refine sr ?_
  replace H := bd2 H; obtain ⟨r18, r19, e20, H⟩ := H
  refine ov hr (vI r1) (by kernel_rfl) ?_; clear hr a; intro a hr
  cases r18 with
  | some S21 =>
   have hc := cells_New_ok0 (H := e20) (h := h)
   refine op_call (wn rfl) rfl rfl hr (f := 19) (args := #[vI r1]) (by kernel_rfl) hc ?_; clear hc h
   rintro _ w ⟨Bn22, car23, ccr24, car25, ccr26, rfl, h⟩; refine ⟨_, rfl, ?_⟩
   clear hr a; intro a hr
   refine ovs [32, 35, 36, 9, 10] [.tuple #[pA Bn22 0, vI r19], pA Bn22 0, vI r19, pA Bn22 0, vI r19] hr ⟨rfl, rfl⟩ (by kernel_rfl) ?_; clear hr a; intro a hr
   refine ln ?_
   refine sr ?_
   refine ovs [37, 38, 39] [vI r19, vB (r19 == (0 : Int)), vB (r19 == (0 : Int))] hr ⟨rfl, rfl⟩ (by kernel_rfl) ?_; clear hr a; intro a hr
   by_cases c27 : r19 = (0 : Int)
   ·
    replace H := ifT c27 H
    refine opv (wgt hr (beq_iff_eq.mpr c27)) hr (pA Bn22 0) (by kernel_rfl) ?_; clear hr a; intro a hr
    refine opv (wgt hr (beq_iff_eq.mpr c27)) hr (vB true) (by kernel_rfl) ?_; clear hr a; intro a hr
    refine opv (wn rfl) hr (vB true) (rp_t (b := (r19 == (0 : Int))) rfl (by kernel_rfl) (beq_iff_eq.mpr c27) (by kernel_rfl)) ?_; clear hr a; intro a hr
    refine ov hr (vB true) (by kernel_rfl) ?_; clear hr a; intro a hr
    refine opv (wgt hr (c := true) rfl) hr (pA Bn22 0) (by kernel_rfl) ?_; clear hr a; intro a hr
    refine opv (wgt hr (c := true) rfl) hr (.iface 31 (pA Bn22 0)) (by kernel_rfl) ?_; clear hr a; intro a hr
    refine opv (wgt hr (c := true) rfl) hr (vI r1) (by kernel_rfl) ?_; clear hr a; intro a hr
    refine opv (wgt hr (c := true) rfl) hr (.slice va2 p2.length vc2) (by kernel_rfl) ?_; clear hr a; intro a hr
    replace H := bd2 H; obtain ⟨r28, S29, e30, H⟩ := H
    have hc := plunderlaw2_fresh_iface_Arena_ok (va2 := va2) (vc2 := vc2) (hv2 := (RdRow.up 0 hv2)) (H := e30) (h := h)
    refine op_call (wgt hr (c := true) rfl) rfl rfl hr (f := 35) (args := #[.iface 31 (pA Bn22 0), vI r1, .slice va2 p2.length vc2]) (by kernel_rfl) hc ?_; clear hc h
    rintro _ w ⟨caq31, ccq32, caq33, ccq34, rfl, h⟩; refine ⟨_, rfl, ?_⟩
    clear hr a; intro a hr
    refine ovs [49, 6] [vB r28, vB r28] hr ⟨rfl, rfl⟩ (by kernel_rfl) ?_; clear hr a; intro a hr
    refine ln ?_
    refine wp_ret ?_
    refine end_ret1 (v := vB r28) rfl hr (by kernel_rfl) ?_
    replace h : Fit z (sepL (L)) _ := h.sel 3 [] (by kernel_rfl) (by kernel_rfl)
    replace H := ej1 H; subst H
    exact ⟨rfl, h⟩
   ·
    replace H := ifF c27 H
    refine offg (wgt hr (beq_eq_false_iff_ne.mpr c27)) hr ?_; clear hr a; intro a hr
    refine offg (wgt hr (beq_eq_false_iff_ne.mpr c27)) hr ?_; clear hr a; intro a hr
    refine opv (wn rfl) hr (vB false) (rp_f (b := (r19 == (0 : Int))) rfl (by kernel_rfl) (beq_eq_false_iff_ne.mpr c27) (by kernel_rfl)) ?_; clear hr a; intro a hr
    refine ov hr (vB false) (by kernel_rfl) ?_; clear hr a; intro a hr
    refine offg (wgt hr (c := false) rfl) hr ?_; clear hr a; intro a hr
    refine offg (wgt hr (c := false) rfl) hr ?_; clear hr a; intro a hr
    refine offg (wgt hr (c := false) rfl) hr ?_; clear hr a; intro a hr
    refine offg (wgt hr (c := false) rfl) hr ?_; clear hr a; intro a hr
    refine offg (wgt hr (c := false) rfl) hr ?_; clear hr a; intro a hr
    refine ovs [49, 6] [vB false, vB false] hr ⟨rfl, rfl⟩ (by kernel_rfl) ?_; clear hr a; intro a hr
    refine ln ?_
    refine wp_ret ?_
    refine end_ret1 (v := vB false) rfl hr (by kernel_rfl) ?_
    replace h : Fit z (sepL (L)) _ := h.sel 3 [] (by kernel_rfl) (by kernel_rfl)
    replace H := ej1 H; subst H
    exact ⟨rfl, h⟩
  | none =>
   have hc := cells_New_ok1 (H := e20) (h := h)
   refine op_call (wn rfl) rfl rfl hr (f := 19) (args := #[vI r1]) (by kernel_rfl) hc ?_; clear hc h
   rintro _ w ⟨rfl, h⟩; refine ⟨_, rfl, ?_⟩
   clear hr a; intro a hr
   refine ovs [32, 35, 36, 9, 10] [.tuple #[pN, vI r19], pN, vI r19, pN, vI r19] hr ⟨rfl, rfl⟩ (by kernel_rfl) ?_; clear hr a; intro a hr
   refine ln ?_
   refine sr ?_
   refine ovs [37, 38, 39] [vI r19, vB (r19 == (0 : Int)), vB (r19 == (0 : Int))] hr ⟨rfl, rfl⟩ (by kernel_rfl) ?_; clear hr a; intro a hr
   by_cases c35 : r19 = (0 : Int)
   ·
    replace H := ifT c35 H
    refine opv (wgt hr (beq_iff_eq.mpr c35)) hr (pN) (by kernel_rfl) ?_; clear hr a; intro a hr
    refine opv (wgt hr (beq_iff_eq.mpr c35)) hr (vB false) (by kernel_rfl) ?_; clear hr a; intro a hr
    refine opv (wn rfl) hr (vB false) (rp_t (b := (r19 == (0 : Int))) rfl (by kernel_rfl) (beq_iff_eq.mpr c35) (by kernel_rfl)) ?_; clear hr a; intro a hr
    refine ov hr (vB false) (by kernel_rfl) ?_; clear hr a; intro a hr
    refine offg (wgt hr (c := false) rfl) hr ?_; clear hr a; intro a hr
    refine offg (wgt hr (c := false) rfl) hr ?_; clear hr a; intro a hr
    refine offg (wgt hr (c := false) rfl) hr ?_; clear hr a; intro a hr
    refine offg (wgt hr (c := false) rfl) hr ?_; clear hr a; intro a hr
    refine offg (wgt hr (c := false) rfl) hr ?_; clear hr a; intro a hr
    refine ovs [49, 6] [vB false, vB false] hr ⟨rfl, rfl⟩ (by kernel_rfl) ?_; clear hr a; intro a hr
    refine ln ?_
    refine wp_ret ?_
    refine end_ret1 (v := vB false) rfl hr (by kernel_rfl) ?_
    replace H := ej1 H; subst H
    exact ⟨rfl, h⟩
   ·
    replace H := ifF c35 H
    refine offg (wgt hr (beq_eq_false_iff_ne.mpr c35)) hr ?_; clear hr a; intro a hr
    refine offg (wgt hr (beq_eq_false_iff_ne.mpr c35)) hr ?_; clear hr a; intro a hr
    refine opv (wn rfl) hr (vB false) (rp_f (b := (r19 == (0 : Int))) rfl (by kernel_rfl) (beq_eq_false_iff_ne.mpr c35) (by kernel_rfl)) ?_; clear hr a; intro a hr
    refine ov hr (vB false) (by kernel_rfl) ?_; clear hr a; intro a hr
    refine offg (wgt hr (c := false) rfl) hr ?_; clear hr a; intro a hr
    refine offg (wgt hr (c := false) rfl) hr ?_; clear hr a; intro a hr
    refine offg (wgt hr (c := false) rfl) hr ?_; clear hr a; intro a hr
    refine offg (wgt hr (c := false) rfl) hr ?_; clear hr a; intro a hr
    refine offg (wgt hr (c := false) rfl) hr ?_; clear hr a; intro a hr
    refine ovs [49, 6] [vB false, vB false] hr ⟨rfl, rfl⟩ (by kernel_rfl) ?_; clear hr a; intro a hr
    refine ln ?_
    refine wp_ret ?_
    refine end_ret1 (v := vB false) rfl hr (by kernel_rfl) ?_
    replace H := ej1 H; subst H
    exact ⟨rfl, h⟩


end Go.Proofs.Ytacgigkonoegiaa.Mo
