/- what the functions compute, as plain Lean functions, and that they do -/
import Derived.Test.YtacgigkonoegiaaCa0
namespace Go.Proofs.Ytacgigkonoegiaa.Mo
open Go Go.RowKit Go.Proofs.Ytacgigkonoegiaa.SL Go.Proofs.Ytacgigkonoegiaa.GX
set_option linter.unusedVariables false
set_option linter.unusedSimpArgs false

/-- plunder/plunderlaw2.mod -/
def plunderlaw2_mod (p0 : Int) (p1 : Int) : Option (Int) :=
  if p1 ≠ 0 then (if (p0.tmod p1) < (0 : Int) then some (wi ((p0.tmod p1) + p1)) else some (p0.tmod p1)) else none
set_option maxRecDepth 100000 in
set_option maxHeartbeats 4000000 in
theorem plunderlaw2_mod_ok {z w : World} {L : List HProp} {p0 : Int} {p1 : Int} {r0 : Int} (H : plunderlaw2_mod p0 p1 = some r0) (h : Fit z (sepL (L)) w)  :
    Calls Try.prog 23 #[vI p0, vI p1] w fun e w => e = .returned (vI r0) ∧ Fit z (sepL (L)) w := by
 unfold plunderlaw2_mod at H
 refine enter Try.func23 rfl 15 rfl rfl [(0, vI p0), (1, vI p1)] ⟨rfl, rfl, trivial⟩ ?_
 intro j a hr
 refine sr ?_
 refine ov hr (vI 0) (by kernel_rfl) ?_; clear hr a; intro a hr
 refine ln ?_
 refine sr ?_
 replace H := gd H; obtain ⟨c1, H⟩ := H
 refine ovs [6, 7] [vI p0, vI p1] hr ⟨rfl, rfl⟩ (by kernel_rfl) ?_; clear hr a; intro a hr
 refine opv (wn rfl) hr (vI (p0.tmod p1)) (rrem rfl (by kernel_rfl) (by kernel_rfl) c1) ?_; clear hr a; intro a hr
 refine ov hr (vI (p0.tmod p1)) (by kernel_rfl) ?_; clear hr a; intro a hr
 refine ln ?_
 refine wp_seq ?_
 refine sr ?_
 refine ovs [9, 10] [vI (p0.tmod p1), vB (decide ((p0.tmod p1) < (0 : Int)))] hr ⟨rfl, rfl⟩ (by kernel_rfl) ?_; clear hr a; intro a hr
 refine ln ?_
 by_cases c2 : (p0.tmod p1) < (0 : Int)
 ·
  replace H := ifT c2 H
  refine cond_tt hr (b := (decide ((p0.tmod p1) < (0 : Int)))) (decide_eq_true c2) ?_
  refine wp_region_lit ?_
  refine ovs [11, 12, 13, 5] [vI (p0.tmod p1), vI p1, vI (wi ((p0.tmod p1) + p1)), vI (wi ((p0.tmod p1) + p1))] hr ⟨rfl, rfl⟩ (by kernel_rfl) ?_; clear hr a; intro a hr
  refine ln ?_
  refine sr ?_
  refine ovs [14, 4] [vI (wi ((p0.tmod p1) + p1)), vI (wi ((p0.tmod p1) + p1))] hr ⟨rfl, rfl⟩ (by kernel_rfl) ?_; clear hr a; intro a hr
  refine ln ?_
  refine wp_ret ?_
  refine end_ret1 (v := vI (wi ((p0.tmod p1) + p1))) rfl hr (by kernel_rfl) ?_
  replace H := ej1 H; subst H
  exact ⟨rfl, h⟩
 ·
  replace H := ifF c2 H
  refine cond_ff hr (b := (decide ((p0.tmod p1) < (0 : Int)))) (decide_eq_false c2) ?_
  refine wp_skip ?_
  refine then_normal ?_
  refine sr ?_
  refine ovs [14, 4] [vI (p0.tmod p1), vI (p0.tmod p1)] hr ⟨rfl, rfl⟩ (by kernel_rfl) ?_; clear hr a; intro a hr
  refine ln ?_
  refine wp_ret ?_
  refine end_ret1 (v := vI (p0.tmod p1)) rfl hr (by kernel_rfl) ?_
  replace H := ej1 H; subst H
  exact ⟨rfl, h⟩

/-- plunder/cells.good -/
def cells_good (p0 : Int) : Option (Bool) :=
  (if p0 ≥ (0 : Int) then some (decide (p0 ≤ (1048576 : Int))) else some false)
set_option maxRecDepth 100000 in
set_option maxHeartbeats 4000000 in
theorem cells_good_ok {z w : World} {L : List HProp} {p0 : Int} {r0 : Bool} (H : cells_good p0 = some r0) (h : Fit z (sepL (L)) w)  :
    Calls Try.prog 61 #[vI p0] w fun e w => e = .returned (vB r0) ∧ Fit z (sepL (L)) w := by
 unfold cells_good at H
 refine enter Try.func61 rfl 9 rfl rfl [(0, vI p0)] ⟨rfl, trivial⟩ ?_
 intro j a hr
 refine sr ?_
 refine ov hr (vB false) (by kernel_rfl) ?_; clear hr a; intro a hr
 refine ln ?_
 refine sr ?_
 refine ovs [3, 4, 5] [vI p0, vB (decide (p0 ≥ (0 : Int))), vB (decide (p0 ≥ (0 : Int)))] hr ⟨rfl, rfl⟩ (by kernel_rfl) ?_; clear hr a; intro a hr
 by_cases c1 : p0 ≥ (0 : Int)
 ·
  replace H := ifT c1 H
  refine opv (wgt hr (decide_eq_true c1)) hr (vI p0) (by kernel_rfl) ?_; clear hr a; intro a hr
  refine opv (wgt hr (decide_eq_true c1)) hr (vB (decide (p0 ≤ (1048576 : Int)))) (by kernel_rfl) ?_; clear hr a; intro a hr
  refine opv (wn rfl) hr (vB (decide (p0 ≤ (1048576 : Int)))) (rp_t (b := (decide (p0 ≥ (0 : Int)))) rfl (by kernel_rfl) (decide_eq_true c1) (by kernel_rfl)) ?_; clear hr a; intro a hr
  refine ov hr (vB (decide (p0 ≤ (1048576 : Int)))) (by kernel_rfl) ?_; clear hr a; intro a hr
  refine ln ?_
  refine wp_ret ?_
  refine end_ret1 (v := vB (decide (p0 ≤ (1048576 : Int)))) rfl hr (by kernel_rfl) ?_
  replace H := ej1 H; subst H
  exact ⟨rfl, h⟩
 ·
  replace H := ifF c1 H
  refine offg (wgt hr (decide_eq_false c1)) hr ?_; clear hr a; intro a hr
  refine offg (wgt hr (decide_eq_false c1)) hr ?_; clear hr a; intro a hr
  refine opv (wn rfl) hr (vB false) (rp_f (b := (decide (p0 ≥ (0 : Int)))) rfl (by kernel_rfl) (decide_eq_false c1) (by kernel_rfl)) ?_; clear hr a; intro a hr
  refine ov hr (vB false) (by kernel_rfl) ?_; clear hr a; intro a hr
  refine ln ?_
  refine wp_ret ?_
  refine end_ret1 (v := vB false) rfl hr (by kernel_rfl) ?_
  replace H := ej1 H; subst H
  exact ⟨rfl, h⟩

/-- plunder/cells.New -/
def cells_New (p0 : Int) : Option ((Option T_cells_Arena) × Int) :=
  ob1 (cells_good p0) (fun r1 => (if r1 = true then some (some (⟨p0, 0, ([] : List Int), ([] : List T_api_Access), 0, false⟩ : T_cells_Arena), 0) else some (none, 3)))
set_option maxRecDepth 100000 in
set_option maxHeartbeats 4000000 in
theorem cells_New_ok0 {z w : World} {L : List HProp} {p0 : Int} {r0 : T_cells_Arena} {r1 : Int} (H : cells_New p0 = some ((some r0), r1)) (h : Fit z (sepL (L)) w)  :
    Calls Try.prog 19 #[vI p0] w fun e w => ∃ Bn0 : Nat, ∃ car0_1 : Option Addr, ∃ ccr0_2 : Nat, ∃ car0_3 : Option Addr, ∃ ccr0_4 : Nat, e = .returned (.tuple #[pA Bn0 0, vI r1]) ∧ Fit z (sepL (ob96 Bn0 r0 car0_1 ccr0_2 car0_3 ccr0_4 :: ro2 car0_1 ccr0_2 r0.cell :: ro90 car0_3 ccr0_4 r0.log :: L)) w := by
 unfold cells_New at H
 refine enter Try.func19 rfl 11 rfl rfl [(0, vI p0)] ⟨rfl, trivial⟩ ?_
 intro j a hr
 refine sr ?_
 refine ovs [2, 3] [pN, vI 0] hr ⟨rfl, rfl⟩ (by kernel_rfl) ?_; clear hr a; intro a hr
 refine ln ?_
 refine wp_seq ?_
 refine sr ?_
 replace H := bd1 H; obtain ⟨r1, e2, H⟩ := H
 refine ov hr (vI p0) (by kernel_rfl) ?_; clear hr a; intro a hr
 have hc := cells_good_ok (H := e2) (h := h)
 refine op_call (wn rfl) rfl rfl hr (f := 61) (args := #[vI p0]) (by kernel_rfl) hc ?_; clear hc h
 rintro _ w ⟨rfl, h⟩; refine ⟨_, rfl, ?_⟩
 clear hr a; intro a hr
 refine ov hr (vB (!r1)) (by kernel_rfl) ?_; clear hr a; intro a hr
 refine ln ?_
 by_cases c3 : r1 = true
 ·
  replace H := ifT c3 H
  refine cond_ff hr (b := (!r1)) (by rw [show r1 = true from (c3)]; rfl) ?_
  refine wp_skip ?_
  refine then_normal ?_
  refine sr ?_
  refine ovs [7, 8, 9] [vI p0, .agg #[vI p0, vI 0], .agg #[vI p0, vI 0, .slice none 0 0, .slice none 0 0, vI 0, vB false]] hr ⟨rfl, rfl⟩ (by kernel_rfl) ?_; clear hr a; intro a hr
  refine op_new (wn rfl) rfl rfl hr h (vf := fun b => .pointer (some ⟨b, 0, none⟩)) (cs := #[vI p0, vI 0, .slice none 0 0, .slice none 0 0, vI 0, vB false]) (T := 96) (by kernel_rfl) ?_; clear h hr a; intro b4 w a h hr
  refine ovs [2, 3] [pA b4 0, vI 0] hr ⟨rfl, rfl⟩ (by kernel_rfl) ?_; clear hr a; intro a hr
  refine ln ?_
  refine wp_ret ?_
  refine end_ret2 (v := pA b4 0) (v' := vI 0) rfl hr (by kernel_rfl) (by kernel_rfl) ?_
  replace h : Fit z (sepL (rowOf 2 1 encZ_i64 (.slice none 0 0) ([] : List Int) :: pts b4 (.cells #[vI p0, vI 0, .slice none 0 0, .slice none 0 0, vI 0, vB false] 96) :: L)) _ := h.row_nil
  replace h : Fit z (sepL (rowOf 90 6 enc_T_api_Access (.slice none 0 0) ([] : List T_api_Access) :: rowOf 2 1 encZ_i64 (.slice none 0 0) ([] : List Int) :: pts b4 (.cells #[vI p0, vI 0, .slice none 0 0, .slice none 0 0, vI 0, vB false] 96) :: L)) _ := h.row_nil
  replace h : Fit z (sepL (pts b4 (.cells #[vI p0, vI 0, .slice none 0 0, .slice none 0 0, vI 0, vB false] 96) :: rowOf 2 1 encZ_i64 (.slice none 0 0) ([] : List Int) :: rowOf 90 6 enc_T_api_Access (.slice none 0 0) ([] : List T_api_Access) :: L)) _ := h.sel 3 [2, 1, 0] (by kernel_rfl) (by kernel_rfl)
  cases H
  exact ⟨b4, none, 0, none, 0, rfl, h⟩
 ·
  replace H := ifF c3 H
  refine cond_tt hr (b := (!r1)) (by rw [show r1 = false from (bF c3)]; rfl) ?_
  refine sr ?_
  refine ovs [2, 3] [pN, vI 3] hr ⟨rfl, rfl⟩ (by kernel_rfl) ?_; clear hr a; intro a hr
  refine ln ?_
  refine wp_ret ?_
  refine then_ret ?_
  refine end_ret2 (v := pN) (v' := vI 3) rfl hr (by kernel_rfl) (by kernel_rfl) ?_
  cases H

set_option maxRecDepth 100000 in
set_option maxHeartbeats 4000000 in
theorem cells_New_ok1 {z w : World} {L : List HProp} {p0 : Int} {r1 : Int} (H : cells_New p0 = some (none, r1)) (h : Fit z (sepL (L)) w)  :
    Calls Try.prog 19 #[vI p0] w fun e w => e = .returned (.tuple #[pN, vI r1]) ∧ Fit z (sepL (L)) w := by
 unfold cells_New at H
 refine enter Try.func19 rfl 11 rfl rfl [(0, vI p0)] ⟨rfl, trivial⟩ ?_
 intro j a hr
 refine sr ?_
 refine ovs [2, 3] [pN, vI 0] hr ⟨rfl, rfl⟩ (by kernel_rfl) ?_; clear hr a; intro a hr
 refine ln ?_
 refine wp_seq ?_
 refine sr ?_
 replace H := bd1 H; obtain ⟨r1, e2, H⟩ := H
 refine ov hr (vI p0) (by kernel_rfl) ?_; clear hr a; intro a hr
 have hc := cells_good_ok (H := e2) (h := h)
 refine op_call (wn rfl) rfl rfl hr (f := 61) (args := #[vI p0]) (by kernel_rfl) hc ?_; clear hc h
 rintro _ w ⟨rfl, h⟩; refine ⟨_, rfl, ?_⟩
 clear hr a; intro a hr
 refine ov hr (vB (!r1)) (by kernel_rfl) ?_; clear hr a; intro a hr
 refine ln ?_
 by_cases c3 : r1 = true
 ·
  replace H := ifT c3 H
  refine cond_ff hr (b := (!r1)) (by rw [show r1 = true from (c3)]; rfl) ?_
  refine wp_skip ?_
  refine then_normal ?_
  refine sr ?_
  refine ovs [7, 8, 9] [vI p0, .agg #[vI p0, vI 0], .agg #[vI p0, vI 0, .slice none 0 0, .slice none 0 0, vI 0, vB false]] hr ⟨rfl, rfl⟩ (by kernel_rfl) ?_; clear hr a; intro a hr
  refine op_new (wn rfl) rfl rfl hr h (vf := fun b => .pointer (some ⟨b, 0, none⟩)) (cs := #[vI p0, vI 0, .slice none 0 0, .slice none 0 0, vI 0, vB false]) (T := 96) (by kernel_rfl) ?_; clear h hr a; intro b4 w a h hr
  refine ovs [2, 3] [pA b4 0, vI 0] hr ⟨rfl, rfl⟩ (by kernel_rfl) ?_; clear hr a; intro a hr
  refine ln ?_
  refine wp_ret ?_
  refine end_ret2 (v := pA b4 0) (v' := vI 0) rfl hr (by kernel_rfl) (by kernel_rfl) ?_
  replace h : Fit z (sepL (rowOf 2 1 encZ_i64 (.slice none 0 0) ([] : List Int) :: pts b4 (.cells #[vI p0, vI 0, .slice none 0 0, .slice none 0 0, vI 0, vB false] 96) :: L)) _ := h.row_nil
  replace h : Fit z (sepL (rowOf 90 6 enc_T_api_Access (.slice none 0 0) ([] : List T_api_Access) :: rowOf 2 1 encZ_i64 (.slice none 0 0) ([] : List Int) :: pts b4 (.cells #[vI p0, vI 0, .slice none 0 0, .slice none 0 0, vI 0, vB false] 96) :: L)) _ := h.row_nil
  cases H
 ·
  replace H := ifF c3 H
  refine cond_tt hr (b := (!r1)) (by rw [show r1 = false from (bF c3)]; rfl) ?_
  refine sr ?_
  refine ovs [2, 3] [pN, vI 3] hr ⟨rfl, rfl⟩ (by kernel_rfl) ?_; clear hr a; intro a hr
  refine ln ?_
  refine wp_ret ?_
  refine then_ret ?_
  refine end_ret2 (v := pN) (v' := vI 3) rfl hr (by kernel_rfl) (by kernel_rfl) ?_
  cases H
  exact ⟨rfl, h⟩

/-- (*plunder/cells.Arena).Watch -/
def cells_Arena_Watch (p0 : T_cells_Arena) (p1 : Bool) : Option (T_cells_Arena) :=
  some ({ p0 with watched := p1 })
set_option maxRecDepth 100000 in
set_option maxHeartbeats 4000000 in
theorem cells_Arena_Watch_ok {z w : World} {L : List HProp} {p0 : T_cells_Arena} {p1 : Bool} {B0 : Nat} {ca1 : Option Addr} {cc2 : Nat} {ca3 : Option Addr} {cc4 : Nat} {q0 : T_cells_Arena} (H : cells_Arena_Watch p0 p1 = some q0) (h : Fit z (sepL (ob96 B0 p0 ca1 cc2 ca3 cc4 :: ro2 ca1 cc2 p0.cell :: ro90 ca3 cc4 p0.log :: L)) w)  :
    Calls Try.prog 88 #[pA B0 0, vB p1] w fun e w => ∃ caq0_1 : Option Addr, ∃ ccq0_2 : Nat, ∃ caq0_3 : Option Addr, ∃ ccq0_4 : Nat, e = .returned (.tuple #[]) ∧ Fit z (sepL (ob96 B0 q0 caq0_1 ccq0_2 caq0_3 ccq0_4 :: ro2 caq0_1 ccq0_2 q0.cell :: ro90 caq0_3 ccq0_4 q0.log :: L)) w := by
 unfold cells_Arena_Watch at H
 refine enter Try.func88 rfl 10 rfl rfl [(0, pA B0 0), (1, vB p1)] ⟨rfl, rfl, trivial⟩ ?_
 intro j a hr
 refine sr ?_
 refine ovs [4, 5] [pA B0 0, vB true] hr ⟨rfl, rfl⟩ (by kernel_rfl) ?_; clear hr a; intro a hr
 refine ln ?_
 refine cond_tt hr (b := true) rfl ?_
 refine wp_region_lit ?_
 refine ovs [6, 7, 8, 9] [pA B0 0, vB p1, pA B0 0, pA B0 5] hr ⟨rfl, rfl⟩ (by kernel_rfl) ?_; clear hr a; intro a hr
 refine op_store (wn rfl) rfl hr rfl (by kernel_rfl) (by kernel_rfl) (v := vB p1) rfl rfl (by kernel_rfl) h (i := 5) rfl ?_; clear h; intro w h
 refine wpList_nil ?_
 replace h : Fit z (sepL (pts B0 (.cells #[vI p0.ledger_size, vI p0.ledger_mark, .slice ca1 p0.cell.length cc2, .slice ca3 p0.log.length cc4, vI p0.actor, vB p1] 96) :: ro2 ca1 cc2 p0.cell :: ro90 ca3 cc4 p0.log :: L)) _ := h
 refine end_norm0 rfl hr ?_
 replace H := ej1 H; subst H
 exact ⟨ca1, cc2, ca3, cc4, rfl, h⟩

/-- (*plunder/cells.Arena).Who -/
def cells_Arena_Who (p0 : T_cells_Arena) (p1 : Int) : Option (T_cells_Arena) :=
  some ({ p0 with actor := p1 })
set_option maxRecDepth 100000 in
set_option maxHeartbeats 4000000 in
theorem cells_Arena_Who_ok {z w : World} {L : List HProp} {p0 : T_cells_Arena} {p1 : Int} {B0 : Nat} {ca1 : Option Addr} {cc2 : Nat} {ca3 : Option Addr} {cc4 : Nat} {q0 : T_cells_Arena} (H : cells_Arena_Who p0 p1 = some q0) (h : Fit z (sepL (ob96 B0 p0 ca1 cc2 ca3 cc4 :: ro2 ca1 cc2 p0.cell :: ro90 ca3 cc4 p0.log :: L)) w)  :
    Calls Try.prog 96 #[pA B0 0, vI p1] w fun e w => ∃ caq0_1 : Option Addr, ∃ ccq0_2 : Nat, ∃ caq0_3 : Option Addr, ∃ ccq0_4 : Nat, e = .returned (.tuple #[]) ∧ Fit z (sepL (ob96 B0 q0 caq0_1 ccq0_2 caq0_3 ccq0_4 :: ro2 caq0_1 ccq0_2 q0.cell :: ro90 caq0_3 ccq0_4 q0.log :: L)) w := by
 unfold cells_Arena_Who at H
 refine enter Try.func96 rfl 10 rfl rfl [(0, pA B0 0), (1, vI p1)] ⟨rfl, rfl, trivial⟩ ?_
 intro j a hr
 refine sr ?_
 refine ovs [4, 5] [pA B0 0, vB true] hr ⟨rfl, rfl⟩ (by kernel_rfl) ?_; clear hr a; intro a hr
 refine ln ?_
 refine cond_tt hr (b := true) rfl ?_
 refine wp_region_lit ?_
 refine ovs [6, 7, 8, 9] [pA B0 0, vI p1, pA B0 0, pA B0 4] hr ⟨rfl, rfl⟩ (by kernel_rfl) ?_; clear hr a; intro a hr
 refine op_store (wn rfl) rfl hr rfl (by kernel_rfl) (by kernel_rfl) (v := vI p1) rfl rfl (by kernel_rfl) h (i := 4) rfl ?_; clear h; intro w h
 refine wpList_nil ?_
 replace h : Fit z (sepL (pts B0 (.cells #[vI p0.ledger_size, vI p0.ledger_mark, .slice ca1 p0.cell.length cc2, .slice ca3 p0.log.length cc4, vI p1, vB p0.watched] 96) :: ro2 ca1 cc2 p0.cell :: ro90 ca3 cc4 p0.log :: L)) _ := h
 refine end_norm0 rfl hr ?_
 replace H := ej1 H; subst H
 exact ⟨ca1, cc2, ca3, cc4, rfl, h⟩

/-- (*plunder/cells.ledger).has -/
def cells_ledger_has (p0 : T_cells_Arena) (p1 : Int) : Option (Bool) :=
  (if p1 ≥ (0 : Int) then some (decide (p1 < p0.ledger_mark)) else some false)
set_option maxRecDepth 100000 in
set_option maxHeartbeats 4000000 in
theorem cells_ledger_has_ok {z w : World} {L : List HProp} {p0 : T_cells_Arena} {p1 : Int} {B0 : Nat} {ca1 : Option Addr} {cc2 : Nat} {ca3 : Option Addr} {cc4 : Nat} {r0 : Bool} (H : cells_ledger_has p0 p1 = some r0) (h : Fit z (sepL (ob96 B0 p0 ca1 cc2 ca3 cc4 :: ro2 ca1 cc2 p0.cell :: ro90 ca3 cc4 p0.log :: L)) w)  :
    Calls Try.prog 100 #[pA B0 0, vI p1] w fun e w => e = .returned (vB r0) ∧ Fit z (sepL (ob96 B0 p0 ca1 cc2 ca3 cc4 :: ro2 ca1 cc2 p0.cell :: ro90 ca3 cc4 p0.log :: L)) w := by
 unfold cells_ledger_has at H
 refine enter Try.func100 rfl 15 rfl rfl [(0, pA B0 0), (1, vI p1)] ⟨rfl, rfl, trivial⟩ ?_
 intro j a hr
 refine sr ?_
 refine ov hr (vB false) (by kernel_rfl) ?_; clear hr a; intro a hr
 refine ln ?_
 refine sr ?_
 refine ovs [5, 6, 7] [vI p1, vB (decide (p1 ≥ (0 : Int))), vB (decide (p1 ≥ (0 : Int)))] hr ⟨rfl, rfl⟩ (by kernel_rfl) ?_; clear hr a; intro a hr
 by_cases c5 : p1 ≥ (0 : Int)
 ·
  replace H := ifT c5 H
  refine opv (wgt hr (decide_eq_true c5)) hr (vI p1) (by kernel_rfl) ?_; clear hr a; intro a hr
  refine opv (wgt hr (decide_eq_true c5)) hr (pA B0 0) (by kernel_rfl) ?_; clear hr a; intro a hr
  refine opv (wgt hr (decide_eq_true c5)) hr (pA B0 0) (by kernel_rfl) ?_; clear hr a; intro a hr
  refine opv (wgt hr (decide_eq_true c5)) hr (pA B0 1) (by kernel_rfl) ?_; clear hr a; intro a hr
  refine ld (wgt hr (decide_eq_true c5)) hr (vI p0.ledger_mark) (h.cell 1 rfl) ?_; clear hr a; intro a hr
  refine opv (wgt hr (decide_eq_true c5)) hr (vB (decide (p1 < p0.ledger_mark))) (by kernel_rfl) ?_; clear hr a; intro a hr
  refine opv (wn rfl) hr (vB (decide (p1 < p0.ledger_mark))) (rp_t (b := (decide (p1 ≥ (0 : Int)))) rfl (by kernel_rfl) (decide_eq_true c5) (by kernel_rfl)) ?_; clear hr a; intro a hr
  refine ov hr (vB (decide (p1 < p0.ledger_mark))) (by kernel_rfl) ?_; clear hr a; intro a hr
  refine ln ?_
  refine wp_ret ?_
  refine end_ret1 (v := vB (decide (p1 < p0.ledger_mark))) rfl hr (by kernel_rfl) ?_
  replace H := ej1 H; subst H
  exact ⟨rfl, h⟩
 ·
  replace H := ifF c5 H
  refine offg (wgt hr (decide_eq_false c5)) hr ?_; clear hr a; intro a hr
  refine offg (wgt hr (decide_eq_false c5)) hr ?_; clear hr a; intro a hr
  refine offg (wgt hr (decide_eq_false c5)) hr ?_; clear hr a; intro a hr
  refine offg (wgt hr (decide_eq_false c5)) hr ?_; clear hr a; intro a hr
  refine offg (wgt hr (decide_eq_false c5)) hr ?_; clear hr a; intro a hr
  refine offg (wgt hr (decide_eq_false c5)) hr ?_; clear hr a; intro a hr
  refine opv (wn rfl) hr (vB false) (rp_f (b := (decide (p1 ≥ (0 : Int)))) rfl (by kernel_rfl) (decide_eq_false c5) (by kernel_rfl)) ?_; clear hr a; intro a hr
  refine ov hr (vB false) (by kernel_rfl) ?_; clear hr a; intro a hr
  refine ln ?_
  refine wp_ret ?_
  refine end_ret1 (v := vB false) rfl hr (by kernel_rfl) ?_
  replace H := ej1 H; subst H
  exact ⟨rfl, h⟩

/-- (*plunder/cells.Arena).outside -/
def cells_Arena_outside (p0 : T_cells_Arena) (p1 : Int) : Option (Bool) :=
  ob1 (cells_ledger_has p0 p1) (fun r5 => some (!r5))
set_option maxRecDepth 100000 in
set_option maxHeartbeats 4000000 in
theorem cells_Arena_outside_ok {z w : World} {L : List HProp} {p0 : T_cells_Arena} {p1 : Int} {B0 : Nat} {ca1 : Option Addr} {cc2 : Nat} {ca3 : Option Addr} {cc4 : Nat} {r0 : Bool} (H : cells_Arena_outside p0 p1 = some r0) (h : Fit z (sepL (ob96 B0 p0 ca1 cc2 ca3 cc4 :: ro2 ca1 cc2 p0.cell :: ro90 ca3 cc4 p0.log :: L)) w)  :
    Calls Try.prog 65 #[pA B0 0, vI p1] w fun e w => e = .returned (vB r0) ∧ Fit z (sepL (ob96 B0 p0 ca1 cc2 ca3 cc4 :: ro2 ca1 cc2 p0.cell :: ro90 ca3 cc4 p0.log :: L)) w := by
 unfold cells_Arena_outside at H
 refine enter Try.func65 rfl 15 rfl rfl [(0, pA B0 0), (1, vI p1)] ⟨rfl, rfl, trivial⟩ ?_
 intro j a hr
 refine sr ?_
 refine ov hr (vB false) (by kernel_rfl) ?_; clear hr a; intro a hr
 refine ln ?_
 refine sr ?_
 refine ovs [5, 6, 7] [pA B0 0, vB false, vB false] hr ⟨rfl, rfl⟩ (by kernel_rfl) ?_; clear hr a; intro a hr
 refine opv (wgt hr (c := false) rfl) hr (pA B0 0) (by kernel_rfl) ?_; clear hr a; intro a hr
 refine opv (wgt hr (c := false) rfl) hr (pA B0 0) (by kernel_rfl) ?_; clear hr a; intro a hr
 refine opv (wgt hr (c := false) rfl) hr (pA B0 0) (by kernel_rfl) ?_; clear hr a; intro a hr
 refine opv (wgt hr (c := false) rfl) hr (vI p1) (by kernel_rfl) ?_; clear hr a; intro a hr
 replace H := bd1 H; obtain ⟨r5, e6, H⟩ := H
 have hc := cells_ledger_has_ok (H := e6) (h := h)
 refine op_call (wgt hr (c := false) rfl) rfl rfl hr (f := 100) (args := #[pA B0 0, vI p1]) (by kernel_rfl) hc ?_; clear hc h
 rintro _ w ⟨rfl, h⟩; refine ⟨_, rfl, ?_⟩
 clear hr a; intro a hr
 refine opv (wgt hr (c := false) rfl) hr (vB (!r5)) (by kernel_rfl) ?_; clear hr a; intro a hr
 refine ovs [14, 4] [vB (!r5), vB (!r5)] hr ⟨rfl, rfl⟩ (by kernel_rfl) ?_; clear hr a; intro a hr
 refine ln ?_
 refine wp_ret ?_
 refine end_ret1 (v := vB (!r5)) rfl hr (by kernel_rfl) ?_
 replace H := ej1 H; subst H
 exact ⟨rfl, h⟩

/-- (*plunder/cells.Arena).note -/
def cells_Arena_note (p0 : T_cells_Arena) (p1 : Int) (p2 : Int) (p3 : Int) (p4 : Int) (p5 : Bool) : Option (T_cells_Arena) :=
  (if p0.watched = true then if (p0.log.length + 1) * 48 ≤ 140737488355328 then some ({ p0 with log := p0.log ++ [(⟨p0.actor, p1, p2, p3, p4, p5⟩ : T_api_Access)] }) else none else some p0)
set_option maxRecDepth 100000 in
set_option maxHeartbeats 4000000 in
theorem cells_Arena_note_ok {z w : World} {L : List HProp} {p0 : T_cells_Arena} {p1 : Int} {p2 : Int} {p3 : Int} {p4 : Int} {p5 : Bool} {B0 : Nat} {ca1 : Option Addr} {cc2 : Nat} {ca3 : Option Addr} {cc4 : Nat} {q0 : T_cells_Arena} (H : cells_Arena_note p0 p1 p2 p3 p4 p5 = some q0) (h : Fit z (sepL (ob96 B0 p0 ca1 cc2 ca3 cc4 :: ro2 ca1 cc2 p0.cell :: ro90 ca3 cc4 p0.log :: L)) w)  :
    Calls Try.prog 64 #[pA B0 0, vI p1, vI p2, vI p3, vI p4, vB p5] w fun e w => ∃ caq0_1 : Option Addr, ∃ ccq0_2 : Nat, ∃ caq0_3 : Option Addr, ∃ ccq0_4 : Nat, e = .returned (.tuple #[]) ∧ Fit z (sepL (ob96 B0 q0 caq0_1 ccq0_2 caq0_3 ccq0_4 :: ro2 caq0_1 ccq0_2 q0.cell :: ro90 caq0_3 ccq0_4 q0.log :: L)) w := by
 unfold cells_Arena_note at H
 refine enter Try.func64 rfl 35 rfl rfl [(0, pA B0 0), (1, vI p1), (2, vI p2), (3, vI p3), (4, vI p4), (5, vB p5)] ⟨rfl, rfl, rfl, rfl, rfl, rfl, trivial⟩ ?_
 intro j a hr
 refine sr ?_
 refine ovs [12, 13, 14] [pA B0 0, pA B0 0, pA B0 5] hr ⟨rfl, rfl⟩ (by kernel_rfl) ?_; clear hr a; intro a hr
 refine ld (wn rfl) hr (vB p0.watched) (h.cell 5 rfl) ?_; clear hr a; intro a hr
 refine ln ?_
 by_cases c5 : p0.watched = true
 ·
  replace H := ifT c5 H
  refine cond_tt hr (b := p0.watched) (c5) ?_
  replace H := gd H; obtain ⟨c9, H⟩ := H
  refine reg_E (fun w => heldC w B0 3 ([.slice ca3 p0.log.length cc4]) ∧ heldC w B0 4 ([vI p0.actor]) ∧ True) [2, 3, 6, 7, 14] h (by kernel_rfl) ?_; intro w h
  change wpAnyE _ _ _ _ _ _ 20 (Array.replicate 20 false) a w
  have hgo : ∀ w w', CellsGo w w' → (heldC w B0 3 ([.slice ca3 p0.log.length cc4]) ∧ heldC w B0 4 ([vI p0.actor]) ∧ True) → heldC w' B0 3 ([.slice ca3 p0.log.length cc4]) ∧ heldC w' B0 4 ([vI p0.actor]) ∧ True := fun w w' g hD => ⟨heldC_go _ _ _ _ _ g hD.1, heldC_go _ _ _ _ _ g hD.2.1, trivial⟩
  refine ev 19 0 rfl (by kernel_rfl) (wn rfl) hr (pA B0 0) (fun w => by kernel_rfl) ?_; clear hr a; intro a hr
  refine ev 18 1 rfl (by kernel_rfl) (wn rfl) hr (pA B0 0) (fun w => by kernel_rfl) ?_; clear hr a; intro a hr
  refine evD hgo ⟨⟨h.cell 3 rfl, trivial⟩, ⟨h.cell 4 rfl, trivial⟩, trivial⟩ 17 2 rfl (by kernel_rfl) (wn rfl) hr (pA B0 0) (fun w => by kernel_rfl) ?_; clear hr a; intro a hr
  refine evD hgo ⟨⟨h.cell 3 rfl, trivial⟩, ⟨h.cell 4 rfl, trivial⟩, trivial⟩ 16 3 rfl (by kernel_rfl) (wn rfl) hr (pA B0 3) (fun w => by kernel_rfl) ?_; clear hr a; intro a hr
  refine ev 15 5 rfl (by kernel_rfl) (wn rfl) hr (pA B0 0) (fun w => by kernel_rfl) ?_; clear hr a; intro a hr
  refine evD hgo ⟨⟨h.cell 3 rfl, trivial⟩, ⟨h.cell 4 rfl, trivial⟩, trivial⟩ 14 6 rfl (by kernel_rfl) (wn rfl) hr (pA B0 0) (fun w => by kernel_rfl) ?_; clear hr a; intro a hr
  refine evD hgo ⟨⟨h.cell 3 rfl, trivial⟩, ⟨h.cell 4 rfl, trivial⟩, trivial⟩ 13 7 rfl (by kernel_rfl) (wn rfl) hr (pA B0 4) (fun w => by kernel_rfl) ?_; clear hr a; intro a hr
  refine ev 12 9 rfl (by kernel_rfl) (wn rfl) hr (vI p1) (fun w => by kernel_rfl) ?_; clear hr a; intro a hr
  refine ev 11 10 rfl (by kernel_rfl) (wn rfl) hr (vI p2) (fun w => by kernel_rfl) ?_; clear hr a; intro a hr
  refine ev 10 11 rfl (by kernel_rfl) (wn rfl) hr (vI p3) (fun w => by kernel_rfl) ?_; clear hr a; intro a hr
  refine ev 9 12 rfl (by kernel_rfl) (wn rfl) hr (vI p4) (fun w => by kernel_rfl) ?_; clear hr a; intro a hr
  refine ev 8 13 rfl (by kernel_rfl) (wn rfl) hr (vB p5) (fun w => by kernel_rfl) ?_; clear hr a; intro a hr
  refine el [2, 3, 6, 7, 14] (b := B0) (off := 3) (cs := [.slice ca3 p0.log.length cc4]) (fun _ hk => ⟨hk, fun w hD => hD.1⟩) 7 4 rfl (by kernel_rfl) (wn rfl) hr (.slice ca3 p0.log.length cc4) ⟨h.cell 3 rfl, trivial⟩ (fun w hc => rl rfl (by kernel_rfl) (by kernel_rfl) hc.1) ?_; clear hr a; intro a hr
  refine el [2, 3, 6, 7, 14] (b := B0) (off := 4) (cs := [vI p0.actor]) (fun _ hk => ⟨hk, fun w hD => hD.2.1⟩) 6 8 rfl (by kernel_rfl) (wn rfl) hr (vI p0.actor) ⟨h.cell 4 rfl, trivial⟩ (fun w hc => rl rfl (by kernel_rfl) (by kernel_rfl) hc.1) ?_; clear hr a; intro a hr
  refine evD hgo ⟨⟨h.cell 3 rfl, trivial⟩, ⟨h.cell 4 rfl, trivial⟩, trivial⟩ 5 14 rfl (by kernel_rfl) (wn rfl) hr (.agg #[vI p0.actor, vI p1, vI p2, vI p3, vI p4, vB p5]) (fun w => by kernel_rfl) ?_; clear hr a; intro a hr
  refine e_one (fuel := 4) (i := 15) (by kernel_rfl) rfl ?_
  refine op_new (wn rfl) rfl rfl hr h (vf := fun b => .slice (some ⟨b, 0, none⟩) 1 1) (cs := #[vI p0.actor, vI p1, vI p2, vI p3, vI p4, vB p5]) (T := 90) (by kernel_rfl) ?_; clear h hr a; intro b6 w a h hr
  refine wpList_nil ?_; refine then_normal ?_
  refine ⟨fun hE => absurd hE (by decide), ?_⟩
  refine e_one (fuel := 3) (i := 16) (by kernel_rfl) rfl ?_
  replace h : Fit z (sepL (ro90 ca3 cc4 p0.log :: pts b6 (.cells #[vI p0.actor, vI p1, vI p2, vI p3, vI p4, vB p5] 90) :: ob96 B0 p0 ca1 cc2 ca3 cc4 :: ro2 ca1 cc2 p0.cell :: L)) _ := h.sel 4 [3, 0, 1, 2] (by kernel_rfl) (by kernel_rfl)
  refine op_append (n0 := p0.log.length) (c := 1) (bytes := 48) (wn rfl) rfl rfl hr rfl (by kernel_rfl) (by kernel_rfl) enc_T_api_Access_ok (E := 90) (xs := p0.log) (by kernel_rfl) (by kernel_rfl) h (news := [(⟨p0.actor, p1, p2, p3, p4, p5⟩ : T_api_Access)]) (m := 1) rfl ((h.pick 1).news rfl) c9 rfl ?_; clear h hr a; intro ca7 cc8 w a h hr
  refine wpList_nil ?_; refine then_normal ?_
  replace h : Fit z (sepL (ro90 ca7 cc8 (p0.log ++ [(⟨p0.actor, p1, p2, p3, p4, p5⟩ : T_api_Access)]) :: pts b6 (.cells #[vI p0.actor, vI p1, vI p2, vI p3, vI p4, vB p5] 90) :: ob96 B0 p0 ca1 cc2 ca3 cc4 :: ro2 ca1 cc2 p0.cell :: L)) _ := h
  refine ⟨fun hE => absurd hE (by decide), ?_⟩
  refine ev 2 17 rfl (by kernel_rfl) (wn rfl) hr (pA B0 0) (fun w => by kernel_rfl) ?_; clear hr a; intro a hr
  refine ev 1 18 rfl (by kernel_rfl) (wn rfl) hr (pA B0 3) (fun w => by kernel_rfl) ?_; clear hr a; intro a hr
  refine e_one (fuel := 0) (i := 19) (by kernel_rfl) rfl ?_
  replace h : Fit z (sepL (ob96 B0 p0 ca1 cc2 ca3 cc4 :: ro90 ca7 cc8 (p0.log ++ [(⟨p0.actor, p1, p2, p3, p4, p5⟩ : T_api_Access)]) :: pts b6 (.cells #[vI p0.actor, vI p1, vI p2, vI p3, vI p4, vB p5] 90) :: ro2 ca1 cc2 p0.cell :: L)) _ := h.sel 4 [2, 0, 1, 3] (by kernel_rfl) (by kernel_rfl)
  refine op_store (wn rfl) rfl hr rfl (by kernel_rfl) (by kernel_rfl) (v := .slice ca7 ((p0.log ++ [(⟨p0.actor, p1, p2, p3, p4, p5⟩ : T_api_Access)]).length) cc8) rfl rfl (by kernel_rfl) h (i := 3) rfl ?_; clear h; intro w h
  refine wpList_nil ?_; refine then_normal ?_
  replace h : Fit z (sepL (pts B0 (.cells #[vI p0.ledger_size, vI p0.ledger_mark, .slice ca1 p0.cell.length cc2, .slice ca7 ((p0.log ++ [(⟨p0.actor, p1, p2, p3, p4, p5⟩ : T_api_Access)]).length) cc8, vI p0.actor, vB p0.watched] 96) :: ro90 ca7 cc8 (p0.log ++ [(⟨p0.actor, p1, p2, p3, p4, p5⟩ : T_api_Access)]) :: pts b6 (.cells #[vI p0.actor, vI p1, vI p2, vI p3, vI p4, vB p5] 90) :: ro2 ca1 cc2 p0.cell :: L)) _ := h
  refine ⟨fun hE => absurd hE (by decide), ?_⟩
  refine e_end (by kernel_rfl) ?_
  refine end_norm0 rfl hr ?_
  replace h : Fit z (sepL (pts B0 (.cells #[vI p0.ledger_size, vI p0.ledger_mark, .slice ca1 p0.cell.length cc2, .slice ca7 ((p0.log ++ [(⟨p0.actor, p1, p2, p3, p4, p5⟩ : T_api_Access)]).length) cc8, vI p0.actor, vB p0.watched] 96) :: ro2 ca1 cc2 p0.cell :: ro90 ca7 cc8 (p0.log ++ [(⟨p0.actor, p1, p2, p3, p4, p5⟩ : T_api_Access)]) :: L)) _ := h.sel 4 [0, 3, 1] (by kernel_rfl) (by kernel_rfl)
  replace H := ej1 H; subst H
  exact ⟨ca1, cc2, ca7, cc8, rfl, h⟩
 ·
  replace H := ifF c5 H
  refine cond_ff hr (b := p0.watched) (bF c5) ?_
  refine wp_skip ?_
  refine end_norm0 rfl hr ?_
  replace H := ej1 H; subst H
  exact ⟨ca1, cc2, ca3, cc4, rfl, h⟩

/-- (*plunder/cells.Arena).Load -/
def cells_Arena_Load (p0 : T_cells_Arena) (p1 : Int) : Option (Int × Int × T_cells_Arena) :=
  ob1 (cells_Arena_outside p0 p1) (fun r5 => (if r5 = true then some (0, 20, p0) else if inr_ p1 p0.cell.length then ob1 (cells_Arena_note p0 0 p1 (at_ p0.cell p1.toNat) 0 true) (fun S9 => some ((at_ p0.cell p1.toNat), 0, S9)) else none))
set_option maxRecDepth 100000 in
set_option maxHeartbeats 4000000 in
theorem cells_Arena_Load_ok {z w : World} {L : List HProp} {p0 : T_cells_Arena} {p1 : Int} {B0 : Nat} {ca1 : Option Addr} {cc2 : Nat} {ca3 : Option Addr} {cc4 : Nat} {r0 : Int} {r1 : Int} {q0 : T_cells_Arena} (H : cells_Arena_Load p0 p1 = some (r0, r1, q0)) (h : Fit z (sepL (ob96 B0 p0 ca1 cc2 ca3 cc4 :: ro2 ca1 cc2 p0.cell :: ro90 ca3 cc4 p0.log :: L)) w)  :
    Calls Try.prog 66 #[pA B0 0, vI p1] w fun e w => ∃ caq0_1 : Option Addr, ∃ ccq0_2 : Nat, ∃ caq0_3 : Option Addr, ∃ ccq0_4 : Nat, e = .returned (.tuple #[vI r0, vI r1]) ∧ Fit z (sepL (ob96 B0 q0 caq0_1 ccq0_2 caq0_3 ccq0_4 :: ro2 caq0_1 ccq0_2 q0.cell :: ro90 caq0_3 ccq0_4 q0.log :: L)) w := by
 unfold cells_Arena_Load at H
 refine enter Try.func66 rfl 22 rfl rfl [(0, pA B0 0), (1, vI p1)] ⟨rfl, rfl, trivial⟩ ?_
 intro j a hr
 refine sr ?_
 refine ovs [4, 5] [vI 0, vI 0] hr ⟨rfl, rfl⟩ (by kernel_rfl) ?_; clear hr a; intro a hr
 refine ln ?_
 refine wp_seq ?_
 refine sr ?_
 replace H := bd1 H; obtain ⟨r5, e6, H⟩ := H
 refine ovs [7, 8] [pA B0 0, vI p1] hr ⟨rfl, rfl⟩ (by kernel_rfl) ?_; clear hr a; intro a hr
 have hc := cells_Arena_outside_ok (H := e6) (h := h)
 refine op_call (wn rfl) rfl rfl hr (f := 65) (args := #[pA B0 0, vI p1]) (by kernel_rfl) hc ?_; clear hc h
 rintro _ w ⟨rfl, h⟩; refine ⟨_, rfl, ?_⟩
 clear hr a; intro a hr
 refine ln ?_
 by_cases c7 : r5 = true
 ·
  replace H := ifT c7 H
  refine cond_tt hr (b := r5) (c7) ?_
  refine sr ?_
  refine ovs [4, 5] [vI 0, vI 20] hr ⟨rfl, rfl⟩ (by kernel_rfl) ?_; clear hr a; intro a hr
  refine ln ?_
  refine wp_ret ?_
  refine then_ret ?_
  refine end_ret2 (v := vI 0) (v' := vI 20) rfl hr (by kernel_rfl) (by kernel_rfl) ?_
  replace H := ej3 H; obtain ⟨rfl, rfl, rfl⟩ := H
  exact ⟨ca1, cc2, ca3, cc4, rfl, h⟩
 ·
  replace H := ifF c7 H
  refine cond_ff hr (b := r5) (bF c7) ?_
  refine wp_skip ?_
  refine then_normal ?_
  refine sr ?_
  refine ovs [10, 11, 12] [pA B0 0, pA B0 0, pA B0 2] hr ⟨rfl, rfl⟩ (by kernel_rfl) ?_; clear hr a; intro a hr
  refine ld (wn rfl) hr (.slice ca1 p0.cell.length cc2) (h.cell 2 rfl) ?_; clear hr a; intro a hr
  replace H := gd H; obtain ⟨c8, H⟩ := H
  refine ov hr (vI p1) (by kernel_rfl) ?_; clear hr a; intro a hr
  refine opv (wn rfl) hr (pA (blk ca1) (p1.toNat * 1)) (ri_row (k := .i64) (E := 2) rfl (by kernel_rfl) (by kernel_rfl) (by kernel_rfl) (by kernel_rfl) (h.pick 1) c8) ?_; clear hr a; intro a hr
  refine ld (wn rfl) hr (vI (at_ p0.cell p1.toNat)) ((h.pick 1).row_cell encZ_i64_ok (f := 0) (at_ok c8) rfl) ?_; clear hr a; intro a hr
  refine ov hr (vI (at_ p0.cell p1.toNat)) (by kernel_rfl) ?_; clear hr a; intro a hr
  refine ln ?_
  refine sr ?_
  replace H := bd1 H; obtain ⟨S9, e10, H⟩ := H
  refine ovs [17, 18, 19] [pA B0 0, vI p1, vI (at_ p0.cell p1.toNat)] hr ⟨rfl, rfl⟩ (by kernel_rfl) ?_; clear hr a; intro a hr
  have hc := cells_Arena_note_ok (H := e10) (h := h)
  refine op_call (wn rfl) rfl rfl hr (f := 64) (args := #[pA B0 0, vI 0, vI p1, vI (at_ p0.cell p1.toNat), vI 0, vB true]) (by kernel_rfl) hc ?_; clear hc h
  rintro _ w ⟨caq11, ccq12, caq13, ccq14, rfl, h⟩; refine ⟨_, rfl, ?_⟩
  clear hr a; intro a hr
  refine ln ?_
  refine sr ?_
  refine ovs [21, 4, 5] [vI (at_ p0.cell p1.toNat), vI (at_ p0.cell p1.toNat), vI 0] hr ⟨rfl, rfl⟩ (by kernel_rfl) ?_; clear hr a; intro a hr
  refine ln ?_
  refine wp_ret ?_
  refine end_ret2 (v := vI (at_ p0.cell p1.toNat)) (v' := vI 0) rfl hr (by kernel_rfl) (by kernel_rfl) ?_
  replace H := ej3 H; obtain ⟨rfl, rfl, rfl⟩ := H
  exact ⟨caq11, ccq12, caq13, ccq14, rfl, h⟩

/-- (*plunder/cells.Arena).Store -/
def cells_Arena_Store (p0 : T_cells_Arena) (p1 : Int) (p2 : Int) : Option (Int × T_cells_Arena) :=
  ob1 (cells_Arena_outside p0 p1) (fun r5 => (if r5 = true then some (20, p0) else if inr_ p1 p0.cell.length then ob1 (cells_Arena_note ({ p0 with cell := p0.cell.set p1.toNat p2 }) 1 p1 p2 0 true) (fun S10 => some (0, S10)) else none))
set_option maxRecDepth 100000 in
set_option maxHeartbeats 4000000 in
theorem cells_Arena_Store_ok {z w : World} {L : List HProp} {p0 : T_cells_Arena} {p1 : Int} {p2 : Int} {B0 : Nat} {ca1 : Option Addr} {cc2 : Nat} {ca3 : Option Addr} {cc4 : Nat} {r0 : Int} {q0 : T_cells_Arena} (H : cells_Arena_Store p0 p1 p2 = some (r0, q0)) (h : Fit z (sepL (ob96 B0 p0 ca1 cc2 ca3 cc4 :: ro2 ca1 cc2 p0.cell :: ro90 ca3 cc4 p0.log :: L)) w)  :
    Calls Try.prog 21 #[pA B0 0, vI p1, vI p2] w fun e w => ∃ caq0_1 : Option Addr, ∃ ccq0_2 : Nat, ∃ caq0_3 : Option Addr, ∃ ccq0_4 : Nat, e = .returned (vI r0) ∧ Fit z (sepL (ob96 B0 q0 caq0_1 ccq0_2 caq0_3 ccq0_4 :: ro2 caq0_1 ccq0_2 q0.cell :: ro90 caq0_3 ccq0_4 q0.log :: L)) w := by
 unfold cells_Arena_Store at H
 refine enter Try.func21 rfl 21 rfl rfl [(0, pA B0 0), (1, vI p1), (2, vI p2)] ⟨rfl, rfl, rfl, trivial⟩ ?_
 intro j a hr
 refine sr ?_
 refine ov hr (vI 0) (by kernel_rfl) ?_; clear hr a; intro a hr
 refine ln ?_
 refine wp_seq ?_
 refine sr ?_
 replace H := bd1 H; obtain ⟨r5, e6, H⟩ := H
 refine ovs [7, 8] [pA B0 0, vI p1] hr ⟨rfl, rfl⟩ (by kernel_rfl) ?_; clear hr a; intro a hr
 have hc := cells_Arena_outside_ok (H := e6) (h := h)
 refine op_call (wn rfl) rfl rfl hr (f := 65) (args := #[pA B0 0, vI p1]) (by kernel_rfl) hc ?_; clear hc h
 rintro _ w ⟨rfl, h⟩; refine ⟨_, rfl, ?_⟩
 clear hr a; intro a hr
 refine ln ?_
 by_cases c7 : r5 = true
 ·
  replace H := ifT c7 H
  refine cond_tt hr (b := r5) (c7) ?_
  refine sr ?_
  refine ov hr (vI 20) (by kernel_rfl) ?_; clear hr a; intro a hr
  refine ln ?_
  refine wp_ret ?_
  refine then_ret ?_
  refine end_ret1 (v := vI 20) rfl hr (by kernel_rfl) ?_
  replace H := ej2 H; obtain ⟨rfl, rfl⟩ := H
  exact ⟨ca1, cc2, ca3, cc4, rfl, h⟩
 ·
  replace H := ifF c7 H
  refine cond_ff hr (b := r5) (bF c7) ?_
  refine wp_skip ?_
  refine then_normal ?_
  refine sr ?_
  refine ovs [10, 11, 12] [pA B0 0, pA B0 0, pA B0 2] hr ⟨rfl, rfl⟩ (by kernel_rfl) ?_; clear hr a; intro a hr
  refine ld (wn rfl) hr (.slice ca1 p0.cell.length cc2) (h.cell 2 rfl) ?_; clear hr a; intro a hr
  replace H := gd H; obtain ⟨c8, H⟩ := H
  refine ovs [14, 15] [vI p1, vI p2] hr ⟨rfl, rfl⟩ (by kernel_rfl) ?_; clear hr a; intro a hr
  refine opv (wn rfl) hr (pA (blk ca1) (p1.toNat * 1)) (ri_row (k := .i64) (E := 2) rfl (by kernel_rfl) (by kernel_rfl) (by kernel_rfl) (by kernel_rfl) (h.pick 1) c8) ?_; clear hr a; intro a hr
  replace h : Fit z (sepL (ro2 ca1 cc2 p0.cell :: ob96 B0 p0 ca1 cc2 ca3 cc4 :: ro90 ca3 cc4 p0.log :: L)) _ := h.sel 3 [1, 0, 2] (by kernel_rfl) (by kernel_rfl)
  refine op_store_row (wn rfl) rfl hr rfl (by kernel_rfl) (by kernel_rfl) (v := vI p2) rfl rfl (by kernel_rfl) encZ_i64_ok h (i := p1.toNat) (f := 0) (p := (at_ p0.cell p1.toNat)) (q := p2) (at_ok c8) (by decide) rfl ?_; clear h; intro w h
  replace h : Fit z (sepL (rowOf 2 1 encZ_i64 (.slice ca1 p0.cell.length cc2) (p0.cell.set p1.toNat p2) :: ob96 B0 p0 ca1 cc2 ca3 cc4 :: ro90 ca3 cc4 p0.log :: L)) _ := h
  refine ln ?_
  refine sr ?_
  refine ovs [17, 18, 19] [pA B0 0, vI p1, vI p2] hr ⟨rfl, rfl⟩ (by kernel_rfl) ?_; clear hr a; intro a hr
  have hn8 := h.row_n
  replace h : Fit z (sepL (ro2 ca1 cc2 (p0.cell.set p1.toNat p2) :: pts B0 (.cells #[vI p0.ledger_size, vI p0.ledger_mark, .slice ca1 ((p0.cell.set p1.toNat p2).length) cc2, .slice ca3 p0.log.length cc4, vI p0.actor, vB p0.watched] 96) :: ro90 ca3 cc4 p0.log :: L)) w := (congrArg (fun q_ : Nat => Fit z (sepL (rowOf 2 1 encZ_i64 (.slice ca1 q_ cc2) (p0.cell.set p1.toNat p2) :: pts B0 (.cells #[vI p0.ledger_size, vI p0.ledger_mark, .slice ca1 q_ cc2, .slice ca3 p0.log.length cc4, vI p0.actor, vB p0.watched] 96) :: ro90 ca3 cc4 p0.log :: L)) w) h.row_n).mp h
  replace H := bd1 H; obtain ⟨S10, e11, H⟩ := H
  replace h : Fit z (sepL (pts B0 (.cells #[vI p0.ledger_size, vI p0.ledger_mark, .slice ca1 ((p0.cell.set p1.toNat p2).length) cc2, .slice ca3 p0.log.length cc4, vI p0.actor, vB p0.watched] 96) :: ro2 ca1 cc2 (p0.cell.set p1.toNat p2) :: ro90 ca3 cc4 p0.log :: L)) _ := h.sel 3 [1, 0, 2] (by kernel_rfl) (by kernel_rfl)
  have hc := cells_Arena_note_ok (H := e11) (h := h)
  refine op_call (wn rfl) rfl rfl hr (f := 64) (args := #[pA B0 0, vI 1, vI p1, vI p2, vI 0, vB true]) (by kernel_rfl) hc ?_; clear hc h
  rintro _ w ⟨caq12, ccq13, caq14, ccq15, rfl, h⟩; refine ⟨_, rfl, ?_⟩
  clear hr a; intro a hr
  refine ln ?_
  refine sr ?_
  refine ov hr (vI 0) (by kernel_rfl) ?_; clear hr a; intro a hr
  refine ln ?_
  refine wp_ret ?_
  refine end_ret1 (v := vI 0) rfl hr (by kernel_rfl) ?_
  replace H := ej2 H; obtain ⟨rfl, rfl⟩ := H
  exact ⟨caq12, ccq13, caq14, ccq15, rfl, h⟩

/-- (*plunder/cells.Arena).CAS -/
def cells_Arena_CAS (p0 : T_cells_Arena) (p1 : Int) (p2 : Int) (p3 : Int) : Option (Bool × Int × T_cells_Arena) :=
  ob1 (cells_Arena_outside p0 p1) (fun r5 => (if r5 = true then some (false, 20, p0) else if inr_ p1 p0.cell.length then (if (at_ p0.cell p1.toNat) = p2 then ob1 (cells_Arena_note ({ p0 with cell := p0.cell.set p1.toNat p3 }) 2 p1 p2 p3 ((at_ p0.cell p1.toNat) == p2)) (fun S11 => some ((at_ p0.cell p1.toNat) == p2, 0, S11)) else ob1 (cells_Arena_note p0 2 p1 p2 p3 ((at_ p0.cell p1.toNat) == p2)) (fun S17 => some ((at_ p0.cell p1.toNat) == p2, 0, S17))) else none))
set_option maxRecDepth 100000 in
set_option maxHeartbeats 4000000 in
theorem cells_Arena_CAS_ok {z w : World} {L : List HProp} {p0 : T_cells_Arena} {p1 : Int} {p2 : Int} {p3 : Int} {B0 : Nat} {ca1 : Option Addr} {cc2 : Nat} {ca3 : Option Addr} {cc4 : Nat} {r0 : Bool} {r1 : Int} {q0 : T_cells_Arena} (H : cells_Arena_CAS p0 p1 p2 p3 = some (r0, r1, q0)) (h : Fit z (sepL (ob96 B0 p0 ca1 cc2 ca3 cc4 :: ro2 ca1 cc2 p0.cell :: ro90 ca3 cc4 p0.log :: L)) w)  :
    Calls Try.prog 67 #[pA B0 0, vI p1, vI p2, vI p3] w fun e w => ∃ caq0_1 : Option Addr, ∃ ccq0_2 : Nat, ∃ caq0_3 : Option Addr, ∃ ccq0_4 : Nat, e = .returned (.tuple #[vB r0, vI r1]) ∧ Fit z (sepL (ob96 B0 q0 caq0_1 ccq0_2 caq0_3 ccq0_4 :: ro2 caq0_1 ccq0_2 q0.cell :: ro90 caq0_3 ccq0_4 q0.log :: L)) w := by
 unfold cells_Arena_CAS at H
 refine enter Try.func67 rfl 38 rfl rfl [(0, pA B0 0), (1, vI p1), (2, vI p2), (3, vI p3)] ⟨rfl, rfl, rfl, rfl, trivial⟩ ?_
 intro j a hr
 refine sr ?_
 refine ovs [8, 9] [vB false, vI 0] hr ⟨rfl, rfl⟩ (by kernel_rfl) ?_; clear hr a; intro a hr
 refine ln ?_
 refine wp_seq ?_
 refine sr ?_
 replace H := bd1 H; obtain ⟨r5, e6, H⟩ := H
 refine ovs [11, 12] [pA B0 0, vI p1] hr ⟨rfl, rfl⟩ (by kernel_rfl) ?_; clear hr a; intro a hr
 have hc := cells_Arena_outside_ok (H := e6) (h := h)
 refine op_call (wn rfl) rfl rfl hr (f := 65) (args := #[pA B0 0, vI p1]) (by kernel_rfl) hc ?_; clear hc h
 rintro _ w ⟨rfl, h⟩; refine ⟨_, rfl, ?_⟩
 clear hr a; intro a hr
 refine ln ?_
 by_cases c7 : r5 = true
 ·
  replace H := ifT c7 H
  refine cond_tt hr (b := r5) (c7) ?_
  refine sr ?_
  refine ovs [8, 9] [vB false, vI 20] hr ⟨rfl, rfl⟩ (by kernel_rfl) ?_; clear hr a; intro a hr
  refine ln ?_
  refine wp_ret ?_
  refine then_ret ?_
  refine end_ret2 (v := vB false) (v' := vI 20) rfl hr (by kernel_rfl) (by kernel_rfl) ?_
  replace H := ej3 H; obtain ⟨rfl, rfl, rfl⟩ := H
  exact ⟨ca1, cc2, ca3, cc4, rfl, h⟩
 ·
  replace H := ifF c7 H
  refine cond_ff hr (b := r5) (bF c7) ?_
  refine wp_skip ?_
  refine then_normal ?_
  refine sr ?_
  refine ovs [14, 15, 16] [pA B0 0, pA B0 0, pA B0 2] hr ⟨rfl, rfl⟩ (by kernel_rfl) ?_; clear hr a; intro a hr
  refine ld (wn rfl) hr (.slice ca1 p0.cell.length cc2) (h.cell 2 rfl) ?_; clear hr a; intro a hr
  replace H := gd H; obtain ⟨c8, H⟩ := H
  refine ov hr (vI p1) (by kernel_rfl) ?_; clear hr a; intro a hr
  refine opv (wn rfl) hr (pA (blk ca1) (p1.toNat * 1)) (ri_row (k := .i64) (E := 2) rfl (by kernel_rfl) (by kernel_rfl) (by kernel_rfl) (by kernel_rfl) (h.pick 1) c8) ?_; clear hr a; intro a hr
  refine ld (wn rfl) hr (vI (at_ p0.cell p1.toNat)) ((h.pick 1).row_cell encZ_i64_ok (f := 0) (at_ok c8) rfl) ?_; clear hr a; intro a hr
  refine ovs [21, 22, 10] [vI p2, vB ((at_ p0.cell p1.toNat) == p2), vB ((at_ p0.cell p1.toNat) == p2)] hr ⟨rfl, rfl⟩ (by kernel_rfl) ?_; clear hr a; intro a hr
  refine ln ?_
  refine wp_seq ?_
  refine sr ?_
  refine ov hr (vB ((at_ p0.cell p1.toNat) == p2)) (by kernel_rfl) ?_; clear hr a; intro a hr
  refine ln ?_
  by_cases c9 : (at_ p0.cell p1.toNat) = p2
  ·
   replace H := ifT c9 H
   refine cond_tt hr (b := ((at_ p0.cell p1.toNat) == p2)) (beq_iff_eq.mpr c9) ?_
   refine wp_region_lit ?_
   refine ovs [24, 25, 26] [pA B0 0, pA B0 0, pA B0 2] hr ⟨rfl, rfl⟩ (by kernel_rfl) ?_; clear hr a; intro a hr
   refine ld (wn rfl) hr (.slice ca1 p0.cell.length cc2) (h.cell 2 rfl) ?_; clear hr a; intro a hr
   refine ovs [28, 29] [vI p1, vI p3] hr ⟨rfl, rfl⟩ (by kernel_rfl) ?_; clear hr a; intro a hr
   refine opv (wn rfl) hr (pA (blk ca1) (p1.toNat * 1)) (ri_row (k := .i64) (E := 2) rfl (by kernel_rfl) (by kernel_rfl) (by kernel_rfl) (by kernel_rfl) (h.pick 1) c8) ?_; clear hr a; intro a hr
   replace h : Fit z (sepL (ro2 ca1 cc2 p0.cell :: ob96 B0 p0 ca1 cc2 ca3 cc4 :: ro90 ca3 cc4 p0.log :: L)) _ := h.sel 3 [1, 0, 2] (by kernel_rfl) (by kernel_rfl)
   refine op_store_row (wn rfl) rfl hr rfl (by kernel_rfl) (by kernel_rfl) (v := vI p3) rfl rfl (by kernel_rfl) encZ_i64_ok h (i := p1.toNat) (f := 0) (p := (at_ p0.cell p1.toNat)) (q := p3) (at_ok c8) (by decide) rfl ?_; clear h; intro w h
   replace h : Fit z (sepL (rowOf 2 1 encZ_i64 (.slice ca1 p0.cell.length cc2) (p0.cell.set p1.toNat p3) :: ob96 B0 p0 ca1 cc2 ca3 cc4 :: ro90 ca3 cc4 p0.log :: L)) _ := h
   refine ln ?_
   refine sr ?_
   refine ovs [31, 32, 33, 34, 35] [pA B0 0, vI p1, vI p2, vI p3, vB ((at_ p0.cell p1.toNat) == p2)] hr ⟨rfl, rfl⟩ (by kernel_rfl) ?_; clear hr a; intro a hr
   have hn9 := h.row_n
   replace h : Fit z (sepL (ro2 ca1 cc2 (p0.cell.set p1.toNat p3) :: pts B0 (.cells #[vI p0.ledger_size, vI p0.ledger_mark, .slice ca1 ((p0.cell.set p1.toNat p3).length) cc2, .slice ca3 p0.log.length cc4, vI p0.actor, vB p0.watched] 96) :: ro90 ca3 cc4 p0.log :: L)) w := (congrArg (fun q_ : Nat => Fit z (sepL (rowOf 2 1 encZ_i64 (.slice ca1 q_ cc2) (p0.cell.set p1.toNat p3) :: pts B0 (.cells #[vI p0.ledger_size, vI p0.ledger_mark, .slice ca1 q_ cc2, .slice ca3 p0.log.length cc4, vI p0.actor, vB p0.watched] 96) :: ro90 ca3 cc4 p0.log :: L)) w) h.row_n).mp h
   replace H := bd1 H; obtain ⟨S11, e12, H⟩ := H
   replace h : Fit z (sepL (pts B0 (.cells #[vI p0.ledger_size, vI p0.ledger_mark, .slice ca1 ((p0.cell.set p1.toNat p3).length) cc2, .slice ca3 p0.log.length cc4, vI p0.actor, vB p0.watched] 96) :: ro2 ca1 cc2 (p0.cell.set p1.toNat p3) :: ro90 ca3 cc4 p0.log :: L)) _ := h.sel 3 [1, 0, 2] (by kernel_rfl) (by kernel_rfl)
   have hc := cells_Arena_note_ok (H := e12) (h := h)
   refine op_call (wn rfl) rfl rfl hr (f := 64) (args := #[pA B0 0, vI 2, vI p1, vI p2, vI p3, vB ((at_ p0.cell p1.toNat) == p2)]) (by kernel_rfl) hc ?_; clear hc h
   rintro _ w ⟨caq13, ccq14, caq15, ccq16, rfl, h⟩; refine ⟨_, rfl, ?_⟩
   clear hr a; intro a hr
   refine ln ?_
   refine sr ?_
   refine ovs [37, 8, 9] [vB ((at_ p0.cell p1.toNat) == p2), vB ((at_ p0.cell p1.toNat) == p2), vI 0] hr ⟨rfl, rfl⟩ (by kernel_rfl) ?_; clear hr a; intro a hr
   refine ln ?_
   refine wp_ret ?_
   refine end_ret2 (v := vB ((at_ p0.cell p1.toNat) == p2)) (v' := vI 0) rfl hr (by kernel_rfl) (by kernel_rfl) ?_
   replace H := ej3 H; obtain ⟨rfl, rfl, rfl⟩ := H
   exact ⟨caq13, ccq14, caq15, ccq16, rfl, h⟩
  ·
   replace H := ifF c9 H
   refine cond_ff hr (b := ((at_ p0.cell p1.toNat) == p2)) (beq_eq_false_iff_ne.mpr c9) ?_
   refine wp_skip ?_
   refine then_normal ?_
   refine sr ?_
   replace H := bd1 H; obtain ⟨S17, e18, H⟩ := H
   refine ovs [31, 32, 33, 34, 35] [pA B0 0, vI p1, vI p2, vI p3, vB ((at_ p0.cell p1.toNat) == p2)] hr ⟨rfl, rfl⟩ (by kernel_rfl) ?_; clear hr a; intro a hr
   have hc := cells_Arena_note_ok (H := e18) (h := h)
   refine op_call (wn rfl) rfl rfl hr (f := 64) (args := #[pA B0 0, vI 2, vI p1, vI p2, vI p3, vB ((at_ p0.cell p1.toNat) == p2)]) (by kernel_rfl) hc ?_; clear hc h
   rintro _ w ⟨caq19, ccq20, caq21, ccq22, rfl, h⟩; refine ⟨_, rfl, ?_⟩
   clear hr a; intro a hr
   refine ln ?_
   refine sr ?_
   refine ovs [37, 8, 9] [vB ((at_ p0.cell p1.toNat) == p2), vB ((at_ p0.cell p1.toNat) == p2), vI 0] hr ⟨rfl, rfl⟩ (by kernel_rfl) ?_; clear hr a; intro a hr
   refine ln ?_
   refine wp_ret ?_
   refine end_ret2 (v := vB ((at_ p0.cell p1.toNat) == p2)) (v' := vI 0) rfl hr (by kernel_rfl) (by kernel_rfl) ?_
   replace H := ej3 H; obtain ⟨rfl, rfl, rfl⟩ := H
   exact ⟨caq19, ccq20, caq21, ccq22, rfl, h⟩

/-- (*plunder/cells.Arena).Add -/
def cells_Arena_Add (p0 : T_cells_Arena) (p1 : Int) (p2 : Int) : Option (Int × Int × T_cells_Arena) :=
  ob1 (cells_Arena_outside p0 p1) (fun r5 => (if r5 = true then some (0, 20, p0) else if inr_ p1 p0.cell.length then if inr_ p1 (p0.cell.set p1.toNat (wi ((at_ p0.cell p1.toNat) + p2))).length then ob1 (cells_Arena_note ({ p0 with cell := p0.cell.set p1.toNat (wi ((at_ p0.cell p1.toNat) + p2)) }) 3 p1 p2 (wi ((at_ p0.cell p1.toNat) + p2)) true) (fun S11 => if inr_ p1 S11.cell.length then some ((at_ S11.cell p1.toNat), 0, S11) else none) else none else none))
set_option maxRecDepth 100000 in
set_option maxHeartbeats 4000000 in
theorem cells_Arena_Add_ok {z w : World} {L : List HProp} {p0 : T_cells_Arena} {p1 : Int} {p2 : Int} {B0 : Nat} {ca1 : Option Addr} {cc2 : Nat} {ca3 : Option Addr} {cc4 : Nat} {r0 : Int} {r1 : Int} {q0 : T_cells_Arena} (H : cells_Arena_Add p0 p1 p2 = some (r0, r1, q0)) (h : Fit z (sepL (ob96 B0 p0 ca1 cc2 ca3 cc4 :: ro2 ca1 cc2 p0.cell :: ro90 ca3 cc4 p0.log :: L)) w)  :
    Calls Try.prog 68 #[pA B0 0, vI p1, vI p2] w fun e w => ∃ caq0_1 : Option Addr, ∃ ccq0_2 : Nat, ∃ caq0_3 : Option Addr, ∃ ccq0_4 : Nat, e = .returned (.tuple #[vI r0, vI r1]) ∧ Fit z (sepL (ob96 B0 q0 caq0_1 ccq0_2 caq0_3 ccq0_4 :: ro2 caq0_1 ccq0_2 q0.cell :: ro90 caq0_3 ccq0_4 q0.log :: L)) w := by
 unfold cells_Arena_Add at H
 refine enter Try.func68 rfl 39 rfl rfl [(0, pA B0 0), (1, vI p1), (2, vI p2)] ⟨rfl, rfl, rfl, trivial⟩ ?_
 intro j a hr
 refine sr ?_
 refine ovs [6, 7] [vI 0, vI 0] hr ⟨rfl, rfl⟩ (by kernel_rfl) ?_; clear hr a; intro a hr
 refine ln ?_
 refine wp_seq ?_
 refine sr ?_
 replace H := bd1 H; obtain ⟨r5, e6, H⟩ := H
 refine ovs [8, 9] [pA B0 0, vI p1] hr ⟨rfl, rfl⟩ (by kernel_rfl) ?_; clear hr a; intro a hr
 have hc := cells_Arena_outside_ok (H := e6) (h := h)
 refine op_call (wn rfl) rfl rfl hr (f := 65) (args := #[pA B0 0, vI p1]) (by kernel_rfl) hc ?_; clear hc h
 rintro _ w ⟨rfl, h⟩; refine ⟨_, rfl, ?_⟩
 clear hr a; intro a hr
 refine ln ?_
 by_cases c7 : r5 = true
 ·
  replace H := ifT c7 H
  refine cond_tt hr (b := r5) (c7) ?_
  refine sr ?_
  refine ovs [6, 7] [vI 0, vI 20] hr ⟨rfl, rfl⟩ (by kernel_rfl) ?_; clear hr a; intro a hr
  refine ln ?_
  refine wp_ret ?_
  refine then_ret ?_
  refine end_ret2 (v := vI 0) (v' := vI 20) rfl hr (by kernel_rfl) (by kernel_rfl) ?_
  replace H := ej3 H; obtain ⟨rfl, rfl, rfl⟩ := H
  exact ⟨ca1, cc2, ca3, cc4, rfl, h⟩
 ·
  replace H := ifF c7 H
  refine cond_ff hr (b := r5) (bF c7) ?_
  refine wp_skip ?_
  refine then_normal ?_
  refine sr ?_
  refine ovs [11, 12, 13] [pA B0 0, pA B0 0, pA B0 2] hr ⟨rfl, rfl⟩ (by kernel_rfl) ?_; clear hr a; intro a hr
  refine ld (wn rfl) hr (.slice ca1 p0.cell.length cc2) (h.cell 2 rfl) ?_; clear hr a; intro a hr
  replace H := gd H; obtain ⟨c8, H⟩ := H
  refine ov hr (vI p1) (by kernel_rfl) ?_; clear hr a; intro a hr
  refine opv (wn rfl) hr (pA (blk ca1) (p1.toNat * 1)) (ri_row (k := .i64) (E := 2) rfl (by kernel_rfl) (by kernel_rfl) (by kernel_rfl) (by kernel_rfl) (h.pick 1) c8) ?_; clear hr a; intro a hr
  refine ld (wn rfl) hr (vI (at_ p0.cell p1.toNat)) ((h.pick 1).row_cell encZ_i64_ok (f := 0) (at_ok c8) rfl) ?_; clear hr a; intro a hr
  refine ovs [18, 19] [vI p2, vI (wi ((at_ p0.cell p1.toNat) + p2))] hr ⟨rfl, rfl⟩ (by kernel_rfl) ?_; clear hr a; intro a hr
  refine opv (wn rfl) hr (pA (blk ca1) (p1.toNat * 1)) (ri_row (k := .i64) (E := 2) rfl (by kernel_rfl) (by kernel_rfl) (by kernel_rfl) (by kernel_rfl) (h.pick 1) c8) ?_; clear hr a; intro a hr
  replace h : Fit z (sepL (ro2 ca1 cc2 p0.cell :: ob96 B0 p0 ca1 cc2 ca3 cc4 :: ro90 ca3 cc4 p0.log :: L)) _ := h.sel 3 [1, 0, 2] (by kernel_rfl) (by kernel_rfl)
  refine op_store_row (wn rfl) rfl hr rfl (by kernel_rfl) (by kernel_rfl) (v := vI (wi ((at_ p0.cell p1.toNat) + p2))) rfl rfl (by kernel_rfl) encZ_i64_ok h (i := p1.toNat) (f := 0) (p := (at_ p0.cell p1.toNat)) (q := (wi ((at_ p0.cell p1.toNat) + p2))) (at_ok c8) (by decide) rfl ?_; clear h; intro w h
  replace h : Fit z (sepL (rowOf 2 1 encZ_i64 (.slice ca1 p0.cell.length cc2) (p0.cell.set p1.toNat (wi ((at_ p0.cell p1.toNat) + p2))) :: ob96 B0 p0 ca1 cc2 ca3 cc4 :: ro90 ca3 cc4 p0.log :: L)) _ := h
  refine ln ?_
  refine sr ?_
  refine ovs [21, 22, 23, 24, 25, 26] [pA B0 0, vI p1, vI p2, pA B0 0, pA B0 0, pA B0 2] hr ⟨rfl, rfl⟩ (by kernel_rfl) ?_; clear hr a; intro a hr
  refine ld (wn rfl) hr (.slice ca1 p0.cell.length cc2) ((h.pick 1).cell 2 rfl) ?_; clear hr a; intro a hr
  replace H := gd H; obtain ⟨c9, H⟩ := H
  refine ov hr (vI p1) (by kernel_rfl) ?_; clear hr a; intro a hr
  refine opv (wn rfl) hr (pA (blk ca1) (p1.toNat * 1)) (ri_row (k := .i64) (E := 2) rfl (by kernel_rfl) (by kernel_rfl) (by kernel_rfl) (by kernel_rfl) h c9) ?_; clear hr a; intro a hr
  refine ld (wn rfl) hr (vI (wi ((at_ p0.cell p1.toNat) + p2))) (h.row_cell encZ_i64_ok (f := 0) (get_set ((at_okL (by simpa [inr_] using c9)))) rfl) ?_; clear hr a; intro a hr
  have hn9 := h.row_n
  replace h : Fit z (sepL (ro2 ca1 cc2 (p0.cell.set p1.toNat (wi ((at_ p0.cell p1.toNat) + p2))) :: pts B0 (.cells #[vI p0.ledger_size, vI p0.ledger_mark, .slice ca1 ((p0.cell.set p1.toNat (wi ((at_ p0.cell p1.toNat) + p2))).length) cc2, .slice ca3 p0.log.length cc4, vI p0.actor, vB p0.watched] 96) :: ro90 ca3 cc4 p0.log :: L)) w := (congrArg (fun q_ : Nat => Fit z (sepL (rowOf 2 1 encZ_i64 (.slice ca1 q_ cc2) (p0.cell.set p1.toNat (wi ((at_ p0.cell p1.toNat) + p2))) :: pts B0 (.cells #[vI p0.ledger_size, vI p0.ledger_mark, .slice ca1 q_ cc2, .slice ca3 p0.log.length cc4, vI p0.actor, vB p0.watched] 96) :: ro90 ca3 cc4 p0.log :: L)) w) h.row_n).mp h
  replace H := bd1 H; obtain ⟨S11, e12, H⟩ := H
  replace h : Fit z (sepL (pts B0 (.cells #[vI p0.ledger_size, vI p0.ledger_mark, .slice ca1 ((p0.cell.set p1.toNat (wi ((at_ p0.cell p1.toNat) + p2))).length) cc2, .slice ca3 p0.log.length cc4, vI p0.actor, vB p0.watched] 96) :: ro2 ca1 cc2 (p0.cell.set p1.toNat (wi ((at_ p0.cell p1.toNat) + p2))) :: ro90 ca3 cc4 p0.log :: L)) _ := h.sel 3 [1, 0, 2] (by kernel_rfl) (by kernel_rfl)
  have hc := cells_Arena_note_ok (H := e12) (h := h)
  refine op_call (wn rfl) rfl rfl hr (f := 64) (args := #[pA B0 0, vI 3, vI p1, vI p2, vI (wi ((at_ p0.cell p1.toNat) + p2)), vB true]) (by kernel_rfl) hc ?_; clear hc h
  rintro _ w ⟨caq13, ccq14, caq15, ccq16, rfl, h⟩; refine ⟨_, rfl, ?_⟩
  clear hr a; intro a hr
  refine ln ?_
  refine sr ?_
  refine ovs [32, 33, 34] [pA B0 0, pA B0 0, pA B0 2] hr ⟨rfl, rfl⟩ (by kernel_rfl) ?_; clear hr a; intro a hr
  refine ld (wn rfl) hr (.slice caq13 S11.cell.length ccq14) (h.cell 2 rfl) ?_; clear hr a; intro a hr
  replace H := gd H; obtain ⟨c17, H⟩ := H
  refine ov hr (vI p1) (by kernel_rfl) ?_; clear hr a; intro a hr
  refine opv (wn rfl) hr (pA (blk caq13) (p1.toNat * 1)) (ri_row (k := .i64) (E := 2) rfl (by kernel_rfl) (by kernel_rfl) (by kernel_rfl) (by kernel_rfl) (h.pick 1) c17) ?_; clear hr a; intro a hr
  refine ld (wn rfl) hr (vI (at_ S11.cell p1.toNat)) ((h.pick 1).row_cell encZ_i64_ok (f := 0) (at_ok c17) rfl) ?_; clear hr a; intro a hr
  refine ovs [6, 7] [vI (at_ S11.cell p1.toNat), vI 0] hr ⟨rfl, rfl⟩ (by kernel_rfl) ?_; clear hr a; intro a hr
  refine ln ?_
  refine wp_ret ?_
  refine end_ret2 (v := vI (at_ S11.cell p1.toNat)) (v' := vI 0) rfl hr (by kernel_rfl) (by kernel_rfl) ?_
  replace H := ej3 H; obtain ⟨rfl, rfl, rfl⟩ := H
  exact ⟨caq13, ccq14, caq15, ccq16, rfl, h⟩

/-- (*plunder/cells.ledger).refuse -/
def cells_ledger_refuse (p0 : T_cells_Arena) (p1 : Int) : Option (Int) :=
  (if p1 < (1 : Int) then some 21 else (if p1 > (wi (p0.ledger_size - p0.ledger_mark)) then some 22 else some 0))
set_option maxRecDepth 100000 in
set_option maxHeartbeats 4000000 in
theorem cells_ledger_refuse_ok {z w : World} {L : List HProp} {p0 : T_cells_Arena} {p1 : Int} {B0 : Nat} {ca1 : Option Addr} {cc2 : Nat} {ca3 : Option Addr} {cc4 : Nat} {r0 : Int} (H : cells_ledger_refuse p0 p1 = some r0) (h : Fit z (sepL (ob96 B0 p0 ca1 cc2 ca3 cc4 :: ro2 ca1 cc2 p0.cell :: ro90 ca3 cc4 p0.log :: L)) w)  :
    Calls Try.prog 62 #[pA B0 0, vI p1] w fun e w => e = .returned (vI r0) ∧ Fit z (sepL (ob96 B0 p0 ca1 cc2 ca3 cc4 :: ro2 ca1 cc2 p0.cell :: ro90 ca3 cc4 p0.log :: L)) w := by
 unfold cells_ledger_refuse at H
 refine enter Try.func62 rfl 22 rfl rfl [(0, pA B0 0), (1, vI p1)] ⟨rfl, rfl, trivial⟩ ?_
 intro j a hr
 refine sr ?_
 refine ov hr (vI 0) (by kernel_rfl) ?_; clear hr a; intro a hr
 refine ln ?_
 refine wp_seq ?_
 refine sr ?_
 refine ovs [5, 6] [vI p1, vB (decide (p1 < (1 : Int)))] hr ⟨rfl, rfl⟩ (by kernel_rfl) ?_; clear hr a; intro a hr
 refine ln ?_
 by_cases c5 : p1 < (1 : Int)
 ·
  replace H := ifT c5 H
  refine cond_tt hr (b := (decide (p1 < (1 : Int)))) (decide_eq_true c5) ?_
  refine sr ?_
  refine ov hr (vI 21) (by kernel_rfl) ?_; clear hr a; intro a hr
  refine ln ?_
  refine wp_ret ?_
  refine then_ret ?_
  refine end_ret1 (v := vI 21) rfl hr (by kernel_rfl) ?_
  replace H := ej1 H; subst H
  exact ⟨rfl, h⟩
 ·
  replace H := ifF c5 H
  refine cond_ff hr (b := (decide (p1 < (1 : Int)))) (decide_eq_false c5) ?_
  refine wp_skip ?_
  refine then_normal ?_
  refine wp_seq ?_
  refine wp_seq ?_
  refine reg_E (fun w => heldC w B0 0 ([vI p0.ledger_size]) ∧ heldC w B0 1 ([vI p0.ledger_mark]) ∧ True) [1, 5, 6, 9, 10] h (by kernel_rfl) ?_; intro w h
  change wpAnyE _ _ _ _ _ _ 15 (Array.replicate 15 false) a w
  have hgo : ∀ w w', CellsGo w w' → (heldC w B0 0 ([vI p0.ledger_size]) ∧ heldC w B0 1 ([vI p0.ledger_mark]) ∧ True) → heldC w' B0 0 ([vI p0.ledger_size]) ∧ heldC w' B0 1 ([vI p0.ledger_mark]) ∧ True := fun w w' g hD => ⟨heldC_go _ _ _ _ _ g hD.1, heldC_go _ _ _ _ _ g hD.2.1, trivial⟩
  refine ev 14 0 rfl (by kernel_rfl) (wn rfl) hr (pA B0 0) (fun w => by kernel_rfl) ?_; clear hr a; intro a hr
  refine evD hgo ⟨⟨h.cell 0 rfl, trivial⟩, ⟨h.cell 1 rfl, trivial⟩, trivial⟩ 13 1 rfl (by kernel_rfl) (wn rfl) hr (vB false) (fun w => by kernel_rfl) ?_; clear hr a; intro a hr
  refine ev 12 2 rfl (by kernel_rfl) (wn rfl) hr (vB false) (fun w => by kernel_rfl) ?_; clear hr a; intro a hr
  refine ev 11 3 rfl (by kernel_rfl) (wgt hr (c := false) rfl) hr (vI p1) (fun w => by kernel_rfl) ?_; clear hr a; intro a hr
  refine ev 10 4 rfl (by kernel_rfl) (wgt hr (c := false) rfl) hr (pA B0 0) (fun w => by kernel_rfl) ?_; clear hr a; intro a hr
  refine evD hgo ⟨⟨h.cell 0 rfl, trivial⟩, ⟨h.cell 1 rfl, trivial⟩, trivial⟩ 9 5 rfl (by kernel_rfl) (wgt hr (c := false) rfl) hr (pA B0 0) (fun w => by kernel_rfl) ?_; clear hr a; intro a hr
  refine evD hgo ⟨⟨h.cell 0 rfl, trivial⟩, ⟨h.cell 1 rfl, trivial⟩, trivial⟩ 8 6 rfl (by kernel_rfl) (wgt hr (c := false) rfl) hr (pA B0 0) (fun w => by kernel_rfl) ?_; clear hr a; intro a hr
  refine ev 7 8 rfl (by kernel_rfl) (wgt hr (c := false) rfl) hr (pA B0 0) (fun w => by kernel_rfl) ?_; clear hr a; intro a hr
  refine evD hgo ⟨⟨h.cell 0 rfl, trivial⟩, ⟨h.cell 1 rfl, trivial⟩, trivial⟩ 6 9 rfl (by kernel_rfl) (wgt hr (c := false) rfl) hr (pA B0 0) (fun w => by kernel_rfl) ?_; clear hr a; intro a hr
  refine evD hgo ⟨⟨h.cell 0 rfl, trivial⟩, ⟨h.cell 1 rfl, trivial⟩, trivial⟩ 5 10 rfl (by kernel_rfl) (wgt hr (c := false) rfl) hr (pA B0 1) (fun w => by kernel_rfl) ?_; clear hr a; intro a hr
  refine el [1, 5, 6, 9, 10] (b := B0) (off := 0) (cs := [vI p0.ledger_size]) (fun _ hk => ⟨hk, fun w hD => hD.1⟩) 4 7 rfl (by kernel_rfl) (wgt hr (c := false) rfl) hr (vI p0.ledger_size) ⟨h.cell 0 rfl, trivial⟩ (fun w hc => rl rfl (by kernel_rfl) (by kernel_rfl) hc.1) ?_; clear hr a; intro a hr
  refine el [1, 5, 6, 9, 10] (b := B0) (off := 1) (cs := [vI p0.ledger_mark]) (fun _ hk => ⟨hk, fun w hD => hD.2.1⟩) 3 11 rfl (by kernel_rfl) (wgt hr (c := false) rfl) hr (vI p0.ledger_mark) ⟨h.cell 1 rfl, trivial⟩ (fun w hc => rl rfl (by kernel_rfl) (by kernel_rfl) hc.1) ?_; clear hr a; intro a hr
  refine ev 2 12 rfl (by kernel_rfl) (wgt hr (c := false) rfl) hr (vI (wi (p0.ledger_size - p0.ledger_mark))) (fun w => by kernel_rfl) ?_; clear hr a; intro a hr
  refine ev 1 13 rfl (by kernel_rfl) (wgt hr (c := false) rfl) hr (vB (decide (p1 > (wi (p0.ledger_size - p0.ledger_mark))))) (fun w => by kernel_rfl) ?_; clear hr a; intro a hr
  refine ev 0 14 rfl (by kernel_rfl) (wn rfl) hr (vB (decide (p1 > (wi (p0.ledger_size - p0.ledger_mark))))) (fun w => by kernel_rfl) ?_; clear hr a; intro a hr
  refine e_end (by kernel_rfl) ?_
  refine then_normal ?_
  by_cases c6 : p1 > (wi (p0.ledger_size - p0.ledger_mark))
  ·
   replace H := ifT c6 H
   refine cond_tt hr (b := (decide (p1 > (wi (p0.ledger_size - p0.ledger_mark))))) (decide_eq_true c6) ?_
   refine sr ?_
   refine ov hr (vI 22) (by kernel_rfl) ?_; clear hr a; intro a hr
   refine ln ?_
   refine wp_ret ?_
   refine then_ret ?_
   refine end_ret1 (v := vI 22) rfl hr (by kernel_rfl) ?_
   replace H := ej1 H; subst H
   exact ⟨rfl, h⟩
  ·
   replace H := ifF c6 H
   refine cond_ff hr (b := (decide (p1 > (wi (p0.ledger_size - p0.ledger_mark))))) (decide_eq_false c6) ?_
   refine wp_skip ?_
   refine then_normal ?_
   refine sr ?_
   refine ov hr (vI 0) (by kernel_rfl) ?_; clear hr a; intro a hr
   refine ln ?_
   refine wp_ret ?_
   refine end_ret1 (v := vI 0) rfl hr (by kernel_rfl) ?_
   replace H := ej1 H; subst H
   exact ⟨rfl, h⟩

/-- (*plunder/cells.ledger).take -/
def cells_ledger_take (p0 : T_cells_Arena) (p1 : Int) : Option (Int × T_cells_Arena) :=
  some (p0.ledger_mark, { p0 with ledger_mark := wi (p0.ledger_mark + p1) })
set_option maxRecDepth 100000 in
set_option maxHeartbeats 4000000 in
theorem cells_ledger_take_ok {z w : World} {L : List HProp} {p0 : T_cells_Arena} {p1 : Int} {B0 : Nat} {ca1 : Option Addr} {cc2 : Nat} {ca3 : Option Addr} {cc4 : Nat} {r0 : Int} {q0 : T_cells_Arena} (H : cells_ledger_take p0 p1 = some (r0, q0)) (h : Fit z (sepL (ob96 B0 p0 ca1 cc2 ca3 cc4 :: ro2 ca1 cc2 p0.cell :: ro90 ca3 cc4 p0.log :: L)) w)  :
    Calls Try.prog 63 #[pA B0 0, vI p1] w fun e w => ∃ caq0_1 : Option Addr, ∃ ccq0_2 : Nat, ∃ caq0_3 : Option Addr, ∃ ccq0_4 : Nat, e = .returned (vI r0) ∧ Fit z (sepL (ob96 B0 q0 caq0_1 ccq0_2 caq0_3 ccq0_4 :: ro2 caq0_1 ccq0_2 q0.cell :: ro90 caq0_3 ccq0_4 q0.log :: L)) w := by
 unfold cells_ledger_take at H
 refine enter Try.func63 rfl 19 rfl rfl [(0, pA B0 0), (1, vI p1)] ⟨rfl, rfl, trivial⟩ ?_
 intro j a hr
 refine sr ?_
 refine ov hr (vI 0) (by kernel_rfl) ?_; clear hr a; intro a hr
 refine ln ?_
 refine sr ?_
 refine ovs [6, 7, 8] [pA B0 0, pA B0 0, pA B0 1] hr ⟨rfl, rfl⟩ (by kernel_rfl) ?_; clear hr a; intro a hr
 refine ld (wn rfl) hr (vI p0.ledger_mark) (h.cell 1 rfl) ?_; clear hr a; intro a hr
 refine ov hr (vI p0.ledger_mark) (by kernel_rfl) ?_; clear hr a; intro a hr
 refine ln ?_
 refine sr ?_
 refine ovs [10, 11, 12] [pA B0 0, pA B0 0, pA B0 1] hr ⟨rfl, rfl⟩ (by kernel_rfl) ?_; clear hr a; intro a hr
 refine ld (wn rfl) hr (vI p0.ledger_mark) (h.cell 1 rfl) ?_; clear hr a; intro a hr
 refine ovs [14, 15, 16, 17] [vI p1, vI (wi (p0.ledger_mark + p1)), pA B0 0, pA B0 1] hr ⟨rfl, rfl⟩ (by kernel_rfl) ?_; clear hr a; intro a hr
 refine op_store (wn rfl) rfl hr rfl (by kernel_rfl) (by kernel_rfl) (v := vI (wi (p0.ledger_mark + p1))) rfl rfl (by kernel_rfl) h (i := 1) rfl ?_; clear h; intro w h
 refine wpList_nil ?_
 replace h : Fit z (sepL (pts B0 (.cells #[vI p0.ledger_size, vI (wi (p0.ledger_mark + p1)), .slice ca1 p0.cell.length cc2, .slice ca3 p0.log.length cc4, vI p0.actor, vB p0.watched] 96) :: ro2 ca1 cc2 p0.cell :: ro90 ca3 cc4 p0.log :: L)) _ := h
 refine then_normal ?_
 refine sr ?_
 refine ovs [18, 4] [vI p0.ledger_mark, vI p0.ledger_mark] hr ⟨rfl, rfl⟩ (by kernel_rfl) ?_; clear hr a; intro a hr
 refine ln ?_
 refine wp_ret ?_
 refine end_ret1 (v := vI p0.ledger_mark) rfl hr (by kernel_rfl) ?_
 replace H := ej2 H; obtain ⟨rfl, rfl⟩ := H
 exact ⟨ca1, cc2, ca3, cc4, rfl, h⟩

/-- (*plunder/cells.Arena).Reserve -/
def cells_Arena_Reserve (p0 : T_cells_Arena) (p1 : Int) : Option (Int × Int × T_cells_Arena) :=
  ob0 (some ()) (ob1 (cells_ledger_refuse p0 p1) (fun r7 => (if r7 = (0 : Int) then ob2 (cells_ledger_take p0 p1) (fun r10 S11 => if 0 ≤ p1 ∧ (S11.cell.length + p1.toNat) * 8 ≤ 140737488355328 then ob1 (cells_Arena_note ({ S11 with cell := S11.cell ++ List.replicate p1.toNat (0 : Int) }) 4 r10 p1 0 true) (fun S20 => some (r10, 0, S20)) else none) else some (0, r7, p0))))
set_option maxRecDepth 100000 in
set_option maxHeartbeats 4000000 in
theorem cells_Arena_Reserve_ok {z w : World} {L : List HProp} {p0 : T_cells_Arena} {p1 : Int} {B0 : Nat} {ca1 : Option Addr} {cc2 : Nat} {ca3 : Option Addr} {cc4 : Nat} {r0 : Int} {r1 : Int} {q0 : T_cells_Arena} (H : cells_Arena_Reserve p0 p1 = some (r0, r1, q0)) (h : Fit z (sepL (ob96 B0 p0 ca1 cc2 ca3 cc4 :: ro2 ca1 cc2 p0.cell :: ro90 ca3 cc4 p0.log :: L)) w)  :
    Calls Try.prog 20 #[pA B0 0, vI p1] w fun e w => ∃ caq0_1 : Option Addr, ∃ ccq0_2 : Nat, ∃ caq0_3 : Option Addr, ∃ ccq0_4 : Nat, e = .returned (.tuple #[vI r0, vI r1]) ∧ Fit z (sepL (ob96 B0 q0 caq0_1 ccq0_2 caq0_3 ccq0_4 :: ro2 caq0_1 ccq0_2 q0.cell :: ro90 caq0_3 ccq0_4 q0.log :: L)) w := by
 unfold cells_Arena_Reserve at H
 refine enter Try.func20 rfl 37 rfl rfl [(0, pA B0 0), (1, vI p1)] ⟨rfl, rfl, trivial⟩ ?_
 intro j a hr
 refine sr ?_
 refine ovs [4, 5] [vI 0, vI 0] hr ⟨rfl, rfl⟩ (by kernel_rfl) ?_; clear hr a; intro a hr
 refine ln ?_
 refine sr ?_
 refine ov hr (pN) (by kernel_rfl) ?_; clear hr a; intro a hr
 refine ln ?_
 replace H := kd0 H; obtain ⟨o6, H, hK5⟩ := H
 refine cut_rule (β := Unit) (fun _ a w => () = o6 ∧ ∃ j, Rep 37 (lk [(0, pA B0 0), (1, vI p1), (6, pA B0 0)] j) a ∧ Fit z (sepL (ob96 B0 p0 ca1 cc2 ca3 cc4 :: ro2 ca1 cc2 p0.cell :: ro90 ca3 cc4 p0.log :: L)) w) ?_ ?_
 ·
  refine sr ?_
  refine ovs [9, 10] [pA B0 0, vB true] hr ⟨rfl, rfl⟩ (by kernel_rfl) ?_; clear hr a; intro a hr
  refine ln ?_
  refine cond_tt hr (b := true) rfl ?_
  refine wp_region_lit ?_
  refine ovs [11, 12, 13, 6] [pA B0 0, pA B0 0, pA B0 0, pA B0 0] hr ⟨rfl, rfl⟩ (by kernel_rfl) ?_; clear hr a; intro a hr
  refine ln ?_
  replace hr := hr.fold2 [(0, pA B0 0), (1, vI p1), (6, pA B0 0)] (by kernel_rfl); obtain ⟨j, hr⟩ := hr
  exact ⟨(), sinj H, j, hr, h⟩
 clear h hr a; rintro _ a w ⟨rfl, j, hr, h⟩
 replace H := kk0 hK5
 refine wp_seq ?_
 refine sr ?_
 replace H := bd1 H; obtain ⟨r7, e8, H⟩ := H
 refine ovs [14, 15] [pA B0 0, vI p1] hr ⟨rfl, rfl⟩ (by kernel_rfl) ?_; clear hr a; intro a hr
 have hc := cells_ledger_refuse_ok (H := e8) (h := h)
 refine op_call (wn rfl) rfl rfl hr (f := 62) (args := #[pA B0 0, vI p1]) (by kernel_rfl) hc ?_; clear hc h
 rintro _ w ⟨rfl, h⟩; refine ⟨_, rfl, ?_⟩
 clear hr a; intro a hr
 refine ov hr (vI r7) (by kernel_rfl) ?_; clear hr a; intro a hr
 refine ln ?_
 refine sr ?_
 refine ovs [17, 18] [vI r7, vB (r7 != (0 : Int))] hr ⟨rfl, rfl⟩ (by kernel_rfl) ?_; clear hr a; intro a hr
 refine ln ?_
 by_cases c9 : r7 = (0 : Int)
 ·
  replace H := ifT c9 H
  refine cond_ff hr (b := (r7 != (0 : Int))) (bne_eq_false_iff_eq.mpr c9) ?_
  refine wp_skip ?_
  refine then_normal ?_
  refine sr ?_
  replace H := bd2 H; obtain ⟨r10, S11, e12, H⟩ := H
  refine ovs [20, 21] [pA B0 0, vI p1] hr ⟨rfl, rfl⟩ (by kernel_rfl) ?_; clear hr a; intro a hr
  have hc := cells_ledger_take_ok (H := e12) (h := h)
  refine op_call (wn rfl) rfl rfl hr (f := 63) (args := #[pA B0 0, vI p1]) (by kernel_rfl) hc ?_; clear hc h
  rintro _ w ⟨caq13, ccq14, caq15, ccq16, rfl, h⟩; refine ⟨_, rfl, ?_⟩
  clear hr a; intro a hr
  refine ov hr (vI r10) (by kernel_rfl) ?_; clear hr a; intro a hr
  refine ln ?_
  refine sr ?_
  refine ovs [23, 24, 25, 26] [pA B0 0, pA B0 0, pA B0 0, pA B0 2] hr ⟨rfl, rfl⟩ (by kernel_rfl) ?_; clear hr a; intro a hr
  refine ld (wn rfl) hr (.slice caq13 S11.cell.length ccq14) (h.cell 2 rfl) ?_; clear hr a; intro a hr
  refine ov hr (vI p1) (by kernel_rfl) ?_; clear hr a; intro a hr
  replace h : Fit z (sepL (ro2 caq13 ccq14 S11.cell :: ob96 B0 S11 caq13 ccq14 caq15 ccq16 :: ro90 caq15 ccq16 S11.log :: L)) _ := h.sel 3 [1, 0, 2] (by kernel_rfl) (by kernel_rfl)
  replace H := gd H; obtain ⟨c19, H⟩ := H
  refine op_extend (kx := .i64) (n0 := S11.cell.length) (i := p1) (m := p1.toNat) (bytes := 8) (zc := #[vI 0]) (0 : Int) (wn rfl) rfl rfl hr rfl (by kernel_rfl) (by kernel_rfl) (Int.toNat_of_nonneg c19.1).symm encZ_i64_ok (E := 2) (xs := S11.cell) (by kernel_rfl) (by kernel_rfl) (by kernel_rfl) rfl h c19.2 rfl ?_; clear h hr a; intro ca17 cc18 w a h hr
  refine ovs [30, 31] [pA B0 0, pA B0 2] hr ⟨rfl, rfl⟩ (by kernel_rfl) ?_; clear hr a; intro a hr
  replace h : Fit z (sepL (ob96 B0 S11 caq13 ccq14 caq15 ccq16 :: ro2 ca17 cc18 (S11.cell ++ List.replicate p1.toNat (0 : Int)) :: ro90 caq15 ccq16 S11.log :: L)) _ := h.sel 3 [1, 0, 2] (by kernel_rfl) (by kernel_rfl)
  refine op_store (wn rfl) rfl hr rfl (by kernel_rfl) (by kernel_rfl) (v := .slice ca17 ((S11.cell ++ List.replicate p1.toNat (0 : Int)).length) cc18) rfl rfl (by kernel_rfl) h (i := 2) rfl ?_; clear h; intro w h
  refine wpList_nil ?_
  replace h : Fit z (sepL (pts B0 (.cells #[vI S11.ledger_size, vI S11.ledger_mark, .slice ca17 ((S11.cell ++ List.replicate p1.toNat (0 : Int)).length) cc18, .slice caq15 S11.log.length ccq16, vI S11.actor, vB S11.watched] 96) :: ro2 ca17 cc18 (S11.cell ++ List.replicate p1.toNat (0 : Int)) :: ro90 caq15 ccq16 S11.log :: L)) _ := h
  refine then_normal ?_
  refine sr ?_
  replace H := bd1 H; obtain ⟨S20, e21, H⟩ := H
  refine ovs [32, 33, 34] [pA B0 0, vI r10, vI p1] hr ⟨rfl, rfl⟩ (by kernel_rfl) ?_; clear hr a; intro a hr
  have hc := cells_Arena_note_ok (H := e21) (h := h)
  refine op_call (wn rfl) rfl rfl hr (f := 64) (args := #[pA B0 0, vI 4, vI r10, vI p1, vI 0, vB true]) (by kernel_rfl) hc ?_; clear hc h
  rintro _ w ⟨caq22, ccq23, caq24, ccq25, rfl, h⟩; refine ⟨_, rfl, ?_⟩
  clear hr a; intro a hr
  refine ln ?_
  refine sr ?_
  refine ovs [36, 4, 5] [vI r10, vI r10, vI 0] hr ⟨rfl, rfl⟩ (by kernel_rfl) ?_; clear hr a; intro a hr
  refine ln ?_
  refine wp_ret ?_
  refine end_ret2 (v := vI r10) (v' := vI 0) rfl hr (by kernel_rfl) (by kernel_rfl) ?_
  replace H := ej3 H; obtain ⟨rfl, rfl, rfl⟩ := H
  exact ⟨caq22, ccq23, caq24, ccq25, rfl, h⟩
 ·
  replace H := ifF c9 H
  refine cond_tt hr (b := (r7 != (0 : Int))) (bne_iff_ne.mpr c9) ?_
  refine sr ?_
  refine ovs [19, 4, 5] [vI r7, vI 0, vI r7] hr ⟨rfl, rfl⟩ (by kernel_rfl) ?_; clear hr a; intro a hr
  refine ln ?_
  refine wp_ret ?_
  refine then_ret ?_
  refine end_ret2 (v := vI 0) (v' := vI r7) rfl hr (by kernel_rfl) (by kernel_rfl) ?_
  replace H := ej3 H; obtain ⟨rfl, rfl, rfl⟩ := H
  exact ⟨ca1, cc2, ca3, cc4, rfl, h⟩

/-- (*plunder/cells.Arena).act -/
def cells_Arena_act (p0 : T_cells_Arena) (p1 : T_api_Act) : Option (T_api_Effect × T_cells_Arena) :=
  ob1 (cells_Arena_Who p0 p1.Who) (fun S7 => (if p1.Kind = (0 : Int) then ob3 (cells_Arena_Load S7 p1.Addr) (fun r15 r16 S17 => some ((⟨r15, r16 == (0 : Int), r16⟩ : T_api_Effect), S17)) else (if p1.Kind = (1 : Int) then ob2 (cells_Arena_Store S7 p1.Addr p1.A) (fun r24 S25 => some ((⟨0, r24 == (0 : Int), r24⟩ : T_api_Effect), S25)) else (if p1.Kind = (2 : Int) then ob3 (cells_Arena_CAS S7 p1.Addr p1.A p1.B) (fun r32 r33 S34 => some ((⟨0, r32, r33⟩ : T_api_Effect), S34)) else (if p1.Kind = (3 : Int) then ob3 (cells_Arena_Add S7 p1.Addr p1.A) (fun r41 r42 S43 => some ((⟨r41, r42 == (0 : Int), r42⟩ : T_api_Effect), S43)) else (if p1.Kind = (4 : Int) then ob3 (cells_Arena_Reserve S7 p1.A) (fun r50 r51 S52 => some ((⟨r50, r51 == (0 : Int), r51⟩ : T_api_Effect), S52)) else some ((⟨0, false, 23⟩ : T_api_Effect), S7)))))))
set_option maxRecDepth 100000 in
set_option maxHeartbeats 4000000 in
theorem cells_Arena_act_ok {z w : World} {L : List HProp} {p0 : T_cells_Arena} {p1 : T_api_Act} {B0 : Nat} {ca1 : Option Addr} {cc2 : Nat} {ca3 : Option Addr} {cc4 : Nat} {r0 : T_api_Effect} {q0 : T_cells_Arena} (H : cells_Arena_act p0 p1 = some (r0, q0)) (h : Fit z (sepL (ob96 B0 p0 ca1 cc2 ca3 cc4 :: ro2 ca1 cc2 p0.cell :: ro90 ca3 cc4 p0.log :: L)) w)  :
    Calls Try.prog 89 #[pA B0 0, ag_T_api_Act p1] w fun e w => ∃ caq0_1 : Option Addr, ∃ ccq0_2 : Nat, ∃ caq0_3 : Option Addr, ∃ ccq0_4 : Nat, e = .returned (ag_T_api_Effect r0) ∧ Fit z (sepL (ob96 B0 q0 caq0_1 ccq0_2 caq0_3 ccq0_4 :: ro2 caq0_1 ccq0_2 q0.cell :: ro90 caq0_3 ccq0_4 q0.log :: L)) w := by
 unfold cells_Arena_act at H
 refine enter Try.func89 rfl 80 rfl rfl [(0, pA B0 0), (1, ag_T_api_Act p1)] ⟨rfl, rfl, trivial⟩ ?_
 intro j a hr
 refine sr ?_
 refine op_new (wn rfl) rfl rfl hr h (vf := fun b => .pointer (some ⟨b, 0, none⟩)) (cs := ca_T_api_Act p1) (T := 57) (by kernel_rfl) ?_; clear h hr a; intro b5 w a h hr
 refine op_new (wn rfl) rfl rfl hr h (vf := fun b => .pointer (some ⟨b, 0, none⟩)) (cs := #[vI 0, vB false, vI 0]) (T := 39) (by kernel_rfl) ?_; clear h hr a; intro b6 w a h hr
 refine ln ?_
 refine sr ?_
 refine ovs [7, 8] [pA B0 0, pA b5 0] hr ⟨rfl, rfl⟩ (by kernel_rfl) ?_; clear hr a; intro a hr
 refine ld (wn rfl) hr (vI p1.Who) ((h.pick 1).cell 0 rfl) ?_; clear hr a; intro a hr
 replace H := bd1 H; obtain ⟨S7, e8, H⟩ := H
 replace h : Fit z (sepL (ob96 B0 p0 ca1 cc2 ca3 cc4 :: ro2 ca1 cc2 p0.cell :: ro90 ca3 cc4 p0.log :: pts b6 (.cells #[vI 0, vB false, vI 0] 39) :: ob57 b5 p1 :: L)) _ := h.sel 5 [2, 3, 4, 0, 1] (by kernel_rfl) (by kernel_rfl)
 have hc := cells_Arena_Who_ok (H := e8) (h := h)
 refine op_call (wn rfl) rfl rfl hr (f := 96) (args := #[pA B0 0, vI p1.Who]) (by kernel_rfl) hc ?_; clear hc h
 rintro _ w ⟨caq9, ccq10, caq11, ccq12, rfl, h⟩; refine ⟨_, rfl, ?_⟩
 clear hr a; intro a hr
 refine ln ?_
 refine sr ?_
 refine op_new (wn rfl) rfl rfl hr h (vf := fun b => .pointer (some ⟨b, 0, none⟩)) (cs := #[vI 0, vB false, vI 0]) (T := 39) (by kernel_rfl) ?_; clear h hr a; intro b13 w a h hr
 refine ln ?_
 refine wp_seq ?_
 refine sr ?_
 refine ov hr (pA b5 1) (by kernel_rfl) ?_; clear hr a; intro a hr
 refine ld (wn rfl) hr (vI p1.Kind) ((h.pick 5).cell 1 rfl) ?_; clear hr a; intro a hr
 refine ln ?_
 refine wp_block ?_
 refine sr ?_
 refine ovs [15, 14] [vB (p1.Kind == (0 : Int)), vB (p1.Kind == (0 : Int))] hr ⟨rfl, rfl⟩ (by kernel_rfl) ?_; clear hr a; intro a hr
 refine ln ?_
 by_cases c14 : p1.Kind = (0 : Int)
 ·
  replace H := ifT c14 H
  refine cond_tt hr (b := (p1.Kind == (0 : Int))) (beq_iff_eq.mpr c14) ?_
  refine wp_region_lit ?_
  refine ovs [17, 18] [pA B0 0, pA b5 2] hr ⟨rfl, rfl⟩ (by kernel_rfl) ?_; clear hr a; intro a hr
  refine ld (wn rfl) hr (vI p1.Addr) ((h.pick 5).cell 2 rfl) ?_; clear hr a; intro a hr
  replace H := bd3 H; obtain ⟨r15, r16, S17, e18, H⟩ := H
  replace h : Fit z (sepL (ob96 B0 S7 caq9 ccq10 caq11 ccq12 :: ro2 caq9 ccq10 S7.cell :: ro90 caq11 ccq12 S7.log :: pts b13 (.cells #[vI 0, vB false, vI 0] 39) :: pts b6 (.cells #[vI 0, vB false, vI 0] 39) :: ob57 b5 p1 :: L)) _ := h.sel 6 [1, 2, 3, 0, 4, 5] (by kernel_rfl) (by kernel_rfl)
  have hc := cells_Arena_Load_ok (H := e18) (h := h)
  refine op_call (wn rfl) rfl rfl hr (f := 66) (args := #[pA B0 0, vI p1.Addr]) (by kernel_rfl) hc ?_; clear hc h
  rintro _ w ⟨caq19, ccq20, caq21, ccq22, rfl, h⟩; refine ⟨_, rfl, ?_⟩
  clear hr a; intro a hr
  refine ovs [16, 21, 22, 23] [.tuple #[vI r15, vI r16], vI r15, vI r16, pA b13 0] hr ⟨rfl, rfl⟩ (by kernel_rfl) ?_; clear hr a; intro a hr
  replace h : Fit z (sepL (pts b13 (.cells #[vI 0, vB false, vI 0] 39) :: ob96 B0 S17 caq19 ccq20 caq21 ccq22 :: ro2 caq19 ccq20 S17.cell :: ro90 caq21 ccq22 S17.log :: pts b6 (.cells #[vI 0, vB false, vI 0] 39) :: ob57 b5 p1 :: L)) _ := h.sel 6 [3, 0, 1, 2, 4, 5] (by kernel_rfl) (by kernel_rfl)
  refine op_store (wn rfl) rfl hr rfl (by kernel_rfl) (by kernel_rfl) (v := vI r15) rfl rfl (by kernel_rfl) h (i := 0) rfl ?_; clear h; intro w h
  refine ov hr (pA b13 2) (by kernel_rfl) ?_; clear hr a; intro a hr
  refine op_store (wn rfl) rfl hr rfl (by kernel_rfl) (by kernel_rfl) (v := vI r16) rfl rfl (by kernel_rfl) h (i := 2) rfl ?_; clear h; intro w h
  refine wpList_nil ?_
  replace h : Fit z (sepL (pts b13 (.cells #[vI r15, vB false, vI r16] 39) :: ob96 B0 S17 caq19 ccq20 caq21 ccq22 :: ro2 caq19 ccq20 S17.cell :: ro90 caq21 ccq22 S17.log :: pts b6 (.cells #[vI 0, vB false, vI 0] 39) :: ob57 b5 p1 :: L)) _ := h
  refine blk_normal ?_
  refine then_normal ?_
  refine sr ?_
  refine ov hr (pA b13 2) (by kernel_rfl) ?_; clear hr a; intro a hr
  refine ld (wn rfl) hr (vI r16) (h.cell 2 rfl) ?_; clear hr a; intro a hr
  refine ovs [77, 78] [vB (r16 == (0 : Int)), pA b13 1] hr ⟨rfl, rfl⟩ (by kernel_rfl) ?_; clear hr a; intro a hr
  refine op_store (wn rfl) rfl hr rfl (by kernel_rfl) (by kernel_rfl) (v := vB (r16 == (0 : Int))) rfl rfl (by kernel_rfl) h (i := 1) rfl ?_; clear h; intro w h
  refine wpList_nil ?_
  replace h : Fit z (sepL (pts b13 (.cells #[vI r15, vB (r16 == (0 : Int)), vI r16] 39) :: ob96 B0 S17 caq19 ccq20 caq21 ccq22 :: ro2 caq19 ccq20 S17.cell :: ro90 caq21 ccq22 S17.log :: pts b6 (.cells #[vI 0, vB false, vI 0] 39) :: ob57 b5 p1 :: L)) _ := h
  refine then_normal ?_
  refine sr ?_
  refine ldm (wn rfl) hr (.agg #[vI r15, vB (r16 == (0 : Int)), vI r16]) (cs := [vI r15, vB (r16 == (0 : Int)), vI r16]) (h.held 0 rfl) ?_; clear hr a; intro a hr
  replace h : Fit z (sepL (pts b6 (.cells #[vI 0, vB false, vI 0] 39) :: pts b13 (.cells #[vI r15, vB (r16 == (0 : Int)), vI r16] 39) :: ob96 B0 S17 caq19 ccq20 caq21 ccq22 :: ro2 caq19 ccq20 S17.cell :: ro90 caq21 ccq22 S17.log :: ob57 b5 p1 :: L)) _ := h.sel 6 [4, 0, 1, 2, 3, 5] (by kernel_rfl) (by kernel_rfl)
  refine op_stores (wn rfl) rfl hr rfl (by kernel_rfl) (by kernel_rfl) (vs := [vI r15, vB (r16 == (0 : Int)), vI r16]) rfl rfl (by kernel_rfl) h (i := 0) (cs' := #[vI r15, vB (r16 == (0 : Int)), vI r16]) rfl ?_; clear h; intro w h
  refine wpList_nil ?_
  replace h : Fit z (sepL (pts b6 (.cells #[vI r15, vB (r16 == (0 : Int)), vI r16] 39) :: pts b13 (.cells #[vI r15, vB (r16 == (0 : Int)), vI r16] 39) :: ob96 B0 S17 caq19 ccq20 caq21 ccq22 :: ro2 caq19 ccq20 S17.cell :: ro90 caq21 ccq22 S17.log :: ob57 b5 p1 :: L)) _ := h
  refine then_normal ?_
  refine wp_ret ?_
  refine end_retC (cs := [vI r15, vB (r16 == (0 : Int)), vI r16]) rfl hr (by kernel_rfl) (by kernel_rfl) (by kernel_rfl) (h.held 0 rfl) ?_
  replace h : Fit z (sepL (ob96 B0 S17 caq19 ccq20 caq21 ccq22 :: ro2 caq19 ccq20 S17.cell :: ro90 caq21 ccq22 S17.log :: L)) _ := h.sel 6 [2, 3, 4] (by kernel_rfl) (by kernel_rfl)
  replace H := ej2 H; obtain ⟨rfl, rfl⟩ := H
  exact ⟨caq19, ccq20, caq21, ccq22, rfl, h⟩
 ·
  replace H := ifF c14 H
  refine cond_ff hr (b := (p1.Kind == (0 : Int))) (beq_eq_false_iff_ne.mpr c14) ?_
  refine sr ?_
  refine ovs [26, 25] [vB (p1.Kind == (1 : Int)), vB (p1.Kind == (1 : Int))] hr ⟨rfl, rfl⟩ (by kernel_rfl) ?_; clear hr a; intro a hr
  refine ln ?_
  by_cases c23 : p1.Kind = (1 : Int)
  ·
   replace H := ifT c23 H
   refine cond_tt hr (b := (p1.Kind == (1 : Int))) (beq_iff_eq.mpr c23) ?_
   refine wp_region_lit ?_
   refine ovs [27, 28] [pA B0 0, pA b5 2] hr ⟨rfl, rfl⟩ (by kernel_rfl) ?_; clear hr a; intro a hr
   refine ld (wn rfl) hr (vI p1.Addr) ((h.pick 5).cell 2 rfl) ?_; clear hr a; intro a hr
   refine ov hr (pA b5 3) (by kernel_rfl) ?_; clear hr a; intro a hr
   refine ld (wn rfl) hr (vI p1.A) ((h.pick 5).cell 3 rfl) ?_; clear hr a; intro a hr
   replace H := bd2 H; obtain ⟨r24, S25, e26, H⟩ := H
   replace h : Fit z (sepL (ob96 B0 S7 caq9 ccq10 caq11 ccq12 :: ro2 caq9 ccq10 S7.cell :: ro90 caq11 ccq12 S7.log :: pts b13 (.cells #[vI 0, vB false, vI 0] 39) :: pts b6 (.cells #[vI 0, vB false, vI 0] 39) :: ob57 b5 p1 :: L)) _ := h.sel 6 [1, 2, 3, 0, 4, 5] (by kernel_rfl) (by kernel_rfl)
   have hc := cells_Arena_Store_ok (H := e26) (h := h)
   refine op_call (wn rfl) rfl rfl hr (f := 21) (args := #[pA B0 0, vI p1.Addr, vI p1.A]) (by kernel_rfl) hc ?_; clear hc h
   rintro _ w ⟨caq27, ccq28, caq29, ccq30, rfl, h⟩; refine ⟨_, rfl, ?_⟩
   clear hr a; intro a hr
   refine ov hr (pA b13 2) (by kernel_rfl) ?_; clear hr a; intro a hr
   replace h : Fit z (sepL (pts b13 (.cells #[vI 0, vB false, vI 0] 39) :: ob96 B0 S25 caq27 ccq28 caq29 ccq30 :: ro2 caq27 ccq28 S25.cell :: ro90 caq29 ccq30 S25.log :: pts b6 (.cells #[vI 0, vB false, vI 0] 39) :: ob57 b5 p1 :: L)) _ := h.sel 6 [3, 0, 1, 2, 4, 5] (by kernel_rfl) (by kernel_rfl)
   refine op_store (wn rfl) rfl hr rfl (by kernel_rfl) (by kernel_rfl) (v := vI r24) rfl rfl (by kernel_rfl) h (i := 2) rfl ?_; clear h; intro w h
   refine wpList_nil ?_
   replace h : Fit z (sepL (pts b13 (.cells #[vI 0, vB false, vI r24] 39) :: ob96 B0 S25 caq27 ccq28 caq29 ccq30 :: ro2 caq27 ccq28 S25.cell :: ro90 caq29 ccq30 S25.log :: pts b6 (.cells #[vI 0, vB false, vI 0] 39) :: ob57 b5 p1 :: L)) _ := h
   refine blk_normal ?_
   refine then_normal ?_
   refine sr ?_
   refine ov hr (pA b13 2) (by kernel_rfl) ?_; clear hr a; intro a hr
   refine ld (wn rfl) hr (vI r24) (h.cell 2 rfl) ?_; clear hr a; intro a hr
   refine ovs [77, 78] [vB (r24 == (0 : Int)), pA b13 1] hr ⟨rfl, rfl⟩ (by kernel_rfl) ?_; clear hr a; intro a hr
   refine op_store (wn rfl) rfl hr rfl (by kernel_rfl) (by kernel_rfl) (v := vB (r24 == (0 : Int))) rfl rfl (by kernel_rfl) h (i := 1) rfl ?_; clear h; intro w h
   refine wpList_nil ?_
   replace h : Fit z (sepL (pts b13 (.cells #[vI 0, vB (r24 == (0 : Int)), vI r24] 39) :: ob96 B0 S25 caq27 ccq28 caq29 ccq30 :: ro2 caq27 ccq28 S25.cell :: ro90 caq29 ccq30 S25.log :: pts b6 (.cells #[vI 0, vB false, vI 0] 39) :: ob57 b5 p1 :: L)) _ := h
   refine then_normal ?_
   refine sr ?_
   refine ldm (wn rfl) hr (.agg #[vI 0, vB (r24 == (0 : Int)), vI r24]) (cs := [vI 0, vB (r24 == (0 : Int)), vI r24]) (h.held 0 rfl) ?_; clear hr a; intro a hr
   replace h : Fit z (sepL (pts b6 (.cells #[vI 0, vB false, vI 0] 39) :: pts b13 (.cells #[vI 0, vB (r24 == (0 : Int)), vI r24] 39) :: ob96 B0 S25 caq27 ccq28 caq29 ccq30 :: ro2 caq27 ccq28 S25.cell :: ro90 caq29 ccq30 S25.log :: ob57 b5 p1 :: L)) _ := h.sel 6 [4, 0, 1, 2, 3, 5] (by kernel_rfl) (by kernel_rfl)
   refine op_stores (wn rfl) rfl hr rfl (by kernel_rfl) (by kernel_rfl) (vs := [vI 0, vB (r24 == (0 : Int)), vI r24]) rfl rfl (by kernel_rfl) h (i := 0) (cs' := #[vI 0, vB (r24 == (0 : Int)), vI r24]) rfl ?_; clear h; intro w h
   refine wpList_nil ?_
   replace h : Fit z (sepL (pts b6 (.cells #[vI 0, vB (r24 == (0 : Int)), vI r24] 39) :: pts b13 (.cells #[vI 0, vB (r24 == (0 : Int)), vI r24] 39) :: ob96 B0 S25 caq27 ccq28 caq29 ccq30 :: ro2 caq27 ccq28 S25.cell :: ro90 caq29 ccq30 S25.log :: ob57 b5 p1 :: L)) _ := h
   refine then_normal ?_
   refine wp_ret ?_
   refine end_retC (cs := [vI 0, vB (r24 == (0 : Int)), vI r24]) rfl hr (by kernel_rfl) (by kernel_rfl) (by kernel_rfl) (h.held 0 rfl) ?_
   replace h : Fit z (sepL (ob96 B0 S25 caq27 ccq28 caq29 ccq30 :: ro2 caq27 ccq28 S25.cell :: ro90 caq29 ccq30 S25.log :: L)) _ := h.sel 6 [2, 3, 4] (by kernel_rfl) (by kernel_rfl)
   replace H := ej2 H; obtain ⟨rfl, rfl⟩ := H
   exact ⟨caq27, ccq28, caq29, ccq30, rfl, h⟩
  ·
   replace H := ifF c23 H
   refine cond_ff hr (b := (p1.Kind == (1 : Int))) (beq_eq_false_iff_ne.mpr c23) ?_
   refine sr ?_
   refine ovs [35, 34] [vB (p1.Kind == (2 : Int)), vB (p1.Kind == (2 : Int))] hr ⟨rfl, rfl⟩ (by kernel_rfl) ?_; clear hr a; intro a hr
   refine ln ?_
   by_cases c31 : p1.Kind = (2 : Int)
   ·
    replace H := ifT c31 H
    refine cond_tt hr (b := (p1.Kind == (2 : Int))) (beq_iff_eq.mpr c31) ?_
    refine sr ?_
    refine ovs [37, 38] [pA B0 0, pA b5 2] hr ⟨rfl, rfl⟩ (by kernel_rfl) ?_; clear hr a; intro a hr
    refine ld (wn rfl) hr (vI p1.Addr) ((h.pick 5).cell 2 rfl) ?_; clear hr a; intro a hr
    refine ov hr (pA b5 3) (by kernel_rfl) ?_; clear hr a; intro a hr
    refine ld (wn rfl) hr (vI p1.A) ((h.pick 5).cell 3 rfl) ?_; clear hr a; intro a hr
    refine ov hr (pA b5 4) (by kernel_rfl) ?_; clear hr a; intro a hr
    refine ld (wn rfl) hr (vI p1.B) ((h.pick 5).cell 4 rfl) ?_; clear hr a; intro a hr
    replace H := bd3 H; obtain ⟨r32, r33, S34, e35, H⟩ := H
    replace h : Fit z (sepL (ob96 B0 S7 caq9 ccq10 caq11 ccq12 :: ro2 caq9 ccq10 S7.cell :: ro90 caq11 ccq12 S7.log :: pts b13 (.cells #[vI 0, vB false, vI 0] 39) :: pts b6 (.cells #[vI 0, vB false, vI 0] 39) :: ob57 b5 p1 :: L)) _ := h.sel 6 [1, 2, 3, 0, 4, 5] (by kernel_rfl) (by kernel_rfl)
    have hc := cells_Arena_CAS_ok (H := e35) (h := h)
    refine op_call (wn rfl) rfl rfl hr (f := 67) (args := #[pA B0 0, vI p1.Addr, vI p1.A, vI p1.B]) (by kernel_rfl) hc ?_; clear hc h
    rintro _ w ⟨caq36, ccq37, caq38, ccq39, rfl, h⟩; refine ⟨_, rfl, ?_⟩
    clear hr a; intro a hr
    refine ovs [36, 45, 46, 47] [.tuple #[vB r32, vI r33], vB r32, vI r33, pA b13 1] hr ⟨rfl, rfl⟩ (by kernel_rfl) ?_; clear hr a; intro a hr
    replace h : Fit z (sepL (pts b13 (.cells #[vI 0, vB false, vI 0] 39) :: ob96 B0 S34 caq36 ccq37 caq38 ccq39 :: ro2 caq36 ccq37 S34.cell :: ro90 caq38 ccq39 S34.log :: pts b6 (.cells #[vI 0, vB false, vI 0] 39) :: ob57 b5 p1 :: L)) _ := h.sel 6 [3, 0, 1, 2, 4, 5] (by kernel_rfl) (by kernel_rfl)
    refine op_store (wn rfl) rfl hr rfl (by kernel_rfl) (by kernel_rfl) (v := vB r32) rfl rfl (by kernel_rfl) h (i := 1) rfl ?_; clear h; intro w h
    refine ov hr (pA b13 2) (by kernel_rfl) ?_; clear hr a; intro a hr
    refine op_store (wn rfl) rfl hr rfl (by kernel_rfl) (by kernel_rfl) (v := vI r33) rfl rfl (by kernel_rfl) h (i := 2) rfl ?_; clear h; intro w h
    refine wpList_nil ?_
    replace h : Fit z (sepL (pts b13 (.cells #[vI 0, vB r32, vI r33] 39) :: ob96 B0 S34 caq36 ccq37 caq38 ccq39 :: ro2 caq36 ccq37 S34.cell :: ro90 caq38 ccq39 S34.log :: pts b6 (.cells #[vI 0, vB false, vI 0] 39) :: ob57 b5 p1 :: L)) _ := h
    refine then_normal ?_
    refine sr ?_
    refine ldm (wn rfl) hr (.agg #[vI 0, vB r32, vI r33]) (cs := [vI 0, vB r32, vI r33]) (h.held 0 rfl) ?_; clear hr a; intro a hr
    replace h : Fit z (sepL (pts b6 (.cells #[vI 0, vB false, vI 0] 39) :: pts b13 (.cells #[vI 0, vB r32, vI r33] 39) :: ob96 B0 S34 caq36 ccq37 caq38 ccq39 :: ro2 caq36 ccq37 S34.cell :: ro90 caq38 ccq39 S34.log :: ob57 b5 p1 :: L)) _ := h.sel 6 [4, 0, 1, 2, 3, 5] (by kernel_rfl) (by kernel_rfl)
    refine op_stores (wn rfl) rfl hr rfl (by kernel_rfl) (by kernel_rfl) (vs := [vI 0, vB r32, vI r33]) rfl rfl (by kernel_rfl) h (i := 0) (cs' := #[vI 0, vB r32, vI r33]) rfl ?_; clear h; intro w h
    refine wpList_nil ?_
    replace h : Fit z (sepL (pts b6 (.cells #[vI 0, vB r32, vI r33] 39) :: pts b13 (.cells #[vI 0, vB r32, vI r33] 39) :: ob96 B0 S34 caq36 ccq37 caq38 ccq39 :: ro2 caq36 ccq37 S34.cell :: ro90 caq38 ccq39 S34.log :: ob57 b5 p1 :: L)) _ := h
    refine then_normal ?_
    refine wp_ret ?_
    refine blk_ret ?_
    refine then_ret ?_
    refine end_retC (cs := [vI 0, vB r32, vI r33]) rfl hr (by kernel_rfl) (by kernel_rfl) (by kernel_rfl) (h.held 0 rfl) ?_
    replace h : Fit z (sepL (ob96 B0 S34 caq36 ccq37 caq38 ccq39 :: ro2 caq36 ccq37 S34.cell :: ro90 caq38 ccq39 S34.log :: L)) _ := h.sel 6 [2, 3, 4] (by kernel_rfl) (by kernel_rfl)
    replace H := ej2 H; obtain ⟨rfl, rfl⟩ := H
    exact ⟨caq36, ccq37, caq38, ccq39, rfl, h⟩
   ·
    replace H := ifF c31 H
    refine cond_ff hr (b := (p1.Kind == (2 : Int))) (beq_eq_false_iff_ne.mpr c31) ?_
    refine sr ?_
    refine ovs [51, 50] [vB (p1.Kind == (3 : Int)), vB (p1.Kind == (3 : Int))] hr ⟨rfl, rfl⟩ (by kernel_rfl) ?_; clear hr a; intro a hr
    refine ln ?_
    by_cases c40 : p1.Kind = (3 : Int)
    ·
     replace H := ifT c40 H
     refine cond_tt hr (b := (p1.Kind == (3 : Int))) (beq_iff_eq.mpr c40) ?_
     refine wp_region_lit ?_
     refine ovs [53, 54] [pA B0 0, pA b5 2] hr ⟨rfl, rfl⟩ (by kernel_rfl) ?_; clear hr a; intro a hr
     refine ld (wn rfl) hr (vI p1.Addr) ((h.pick 5).cell 2 rfl) ?_; clear hr a; intro a hr
     refine ov hr (pA b5 3) (by kernel_rfl) ?_; clear hr a; intro a hr
     refine ld (wn rfl) hr (vI p1.A) ((h.pick 5).cell 3 rfl) ?_; clear hr a; intro a hr
     replace H := bd3 H; obtain ⟨r41, r42, S43, e44, H⟩ := H
     replace h : Fit z (sepL (ob96 B0 S7 caq9 ccq10 caq11 ccq12 :: ro2 caq9 ccq10 S7.cell :: ro90 caq11 ccq12 S7.log :: pts b13 (.cells #[vI 0, vB false, vI 0] 39) :: pts b6 (.cells #[vI 0, vB false, vI 0] 39) :: ob57 b5 p1 :: L)) _ := h.sel 6 [1, 2, 3, 0, 4, 5] (by kernel_rfl) (by kernel_rfl)
     have hc := cells_Arena_Add_ok (H := e44) (h := h)
     refine op_call (wn rfl) rfl rfl hr (f := 68) (args := #[pA B0 0, vI p1.Addr, vI p1.A]) (by kernel_rfl) hc ?_; clear hc h
     rintro _ w ⟨caq45, ccq46, caq47, ccq48, rfl, h⟩; refine ⟨_, rfl, ?_⟩
     clear hr a; intro a hr
     refine ovs [52, 59, 60, 61] [.tuple #[vI r41, vI r42], vI r41, vI r42, pA b13 0] hr ⟨rfl, rfl⟩ (by kernel_rfl) ?_; clear hr a; intro a hr
     replace h : Fit z (sepL (pts b13 (.cells #[vI 0, vB false, vI 0] 39) :: ob96 B0 S43 caq45 ccq46 caq47 ccq48 :: ro2 caq45 ccq46 S43.cell :: ro90 caq47 ccq48 S43.log :: pts b6 (.cells #[vI 0, vB false, vI 0] 39) :: ob57 b5 p1 :: L)) _ := h.sel 6 [3, 0, 1, 2, 4, 5] (by kernel_rfl) (by kernel_rfl)
     refine op_store (wn rfl) rfl hr rfl (by kernel_rfl) (by kernel_rfl) (v := vI r41) rfl rfl (by kernel_rfl) h (i := 0) rfl ?_; clear h; intro w h
     refine ov hr (pA b13 2) (by kernel_rfl) ?_; clear hr a; intro a hr
     refine op_store (wn rfl) rfl hr rfl (by kernel_rfl) (by kernel_rfl) (v := vI r42) rfl rfl (by kernel_rfl) h (i := 2) rfl ?_; clear h; intro w h
     refine wpList_nil ?_
     replace h : Fit z (sepL (pts b13 (.cells #[vI r41, vB false, vI r42] 39) :: ob96 B0 S43 caq45 ccq46 caq47 ccq48 :: ro2 caq45 ccq46 S43.cell :: ro90 caq47 ccq48 S43.log :: pts b6 (.cells #[vI 0, vB false, vI 0] 39) :: ob57 b5 p1 :: L)) _ := h
     refine blk_normal ?_
     refine then_normal ?_
     refine sr ?_
     refine ov hr (pA b13 2) (by kernel_rfl) ?_; clear hr a; intro a hr
     refine ld (wn rfl) hr (vI r42) (h.cell 2 rfl) ?_; clear hr a; intro a hr
     refine ovs [77, 78] [vB (r42 == (0 : Int)), pA b13 1] hr ⟨rfl, rfl⟩ (by kernel_rfl) ?_; clear hr a; intro a hr
     refine op_store (wn rfl) rfl hr rfl (by kernel_rfl) (by kernel_rfl) (v := vB (r42 == (0 : Int))) rfl rfl (by kernel_rfl) h (i := 1) rfl ?_; clear h; intro w h
     refine wpList_nil ?_
     replace h : Fit z (sepL (pts b13 (.cells #[vI r41, vB (r42 == (0 : Int)), vI r42] 39) :: ob96 B0 S43 caq45 ccq46 caq47 ccq48 :: ro2 caq45 ccq46 S43.cell :: ro90 caq47 ccq48 S43.log :: pts b6 (.cells #[vI 0, vB false, vI 0] 39) :: ob57 b5 p1 :: L)) _ := h
     refine then_normal ?_
     refine sr ?_
     refine ldm (wn rfl) hr (.agg #[vI r41, vB (r42 == (0 : Int)), vI r42]) (cs := [vI r41, vB (r42 == (0 : Int)), vI r42]) (h.held 0 rfl) ?_; clear hr a; intro a hr
     replace h : Fit z (sepL (pts b6 (.cells #[vI 0, vB false, vI 0] 39) :: pts b13 (.cells #[vI r41, vB (r42 == (0 : Int)), vI r42] 39) :: ob96 B0 S43 caq45 ccq46 caq47 ccq48 :: ro2 caq45 ccq46 S43.cell :: ro90 caq47 ccq48 S43.log :: ob57 b5 p1 :: L)) _ := h.sel 6 [4, 0, 1, 2, 3, 5] (by kernel_rfl) (by kernel_rfl)
     refine op_stores (wn rfl) rfl hr rfl (by kernel_rfl) (by kernel_rfl) (vs := [vI r41, vB (r42 == (0 : Int)), vI r42]) rfl rfl (by kernel_rfl) h (i := 0) (cs' := #[vI r41, vB (r42 == (0 : Int)), vI r42]) rfl ?_; clear h; intro w h
     refine wpList_nil ?_
     replace h : Fit z (sepL (pts b6 (.cells #[vI r41, vB (r42 == (0 : Int)), vI r42] 39) :: pts b13 (.cells #[vI r41, vB (r42 == (0 : Int)), vI r42] 39) :: ob96 B0 S43 caq45 ccq46 caq47 ccq48 :: ro2 caq45 ccq46 S43.cell :: ro90 caq47 ccq48 S43.log :: ob57 b5 p1 :: L)) _ := h
     refine then_normal ?_
     refine wp_ret ?_
     refine end_retC (cs := [vI r41, vB (r42 == (0 : Int)), vI r42]) rfl hr (by kernel_rfl) (by kernel_rfl) (by kernel_rfl) (h.held 0 rfl) ?_
     replace h : Fit z (sepL (ob96 B0 S43 caq45 ccq46 caq47 ccq48 :: ro2 caq45 ccq46 S43.cell :: ro90 caq47 ccq48 S43.log :: L)) _ := h.sel 6 [2, 3, 4] (by kernel_rfl) (by kernel_rfl)
     replace H := ej2 H; obtain ⟨rfl, rfl⟩ := H
     exact ⟨caq45, ccq46, caq47, ccq48, rfl, h⟩
    ·
     replace H := ifF c40 H
     refine cond_ff hr (b := (p1.Kind == (3 : Int))) (beq_eq_false_iff_ne.mpr c40) ?_
     refine sr ?_
     refine ovs [64, 63] [vB (p1.Kind == (4 : Int)), vB (p1.Kind == (4 : Int))] hr ⟨rfl, rfl⟩ (by kernel_rfl) ?_; clear hr a; intro a hr
     refine ln ?_
     by_cases c49 : p1.Kind = (4 : Int)
     ·
      replace H := ifT c49 H
      refine cond_tt hr (b := (p1.Kind == (4 : Int))) (beq_iff_eq.mpr c49) ?_
      refine sr ?_
      refine ov hr (vI 0) (by kernel_rfl) ?_; clear hr a; intro a hr
      refine ln ?_
      refine sr ?_
      refine ovs [66, 67] [pA B0 0, pA b5 3] hr ⟨rfl, rfl⟩ (by kernel_rfl) ?_; clear hr a; intro a hr
      refine ld (wn rfl) hr (vI p1.A) ((h.pick 5).cell 3 rfl) ?_; clear hr a; intro a hr
      replace H := bd3 H; obtain ⟨r50, r51, S52, e53, H⟩ := H
      replace h : Fit z (sepL (ob96 B0 S7 caq9 ccq10 caq11 ccq12 :: ro2 caq9 ccq10 S7.cell :: ro90 caq11 ccq12 S7.log :: pts b13 (.cells #[vI 0, vB false, vI 0] 39) :: pts b6 (.cells #[vI 0, vB false, vI 0] 39) :: ob57 b5 p1 :: L)) _ := h.sel 6 [1, 2, 3, 0, 4, 5] (by kernel_rfl) (by kernel_rfl)
      have hc := cells_Arena_Reserve_ok (H := e53) (h := h)
      refine op_call (wn rfl) rfl rfl hr (f := 20) (args := #[pA B0 0, vI p1.A]) (by kernel_rfl) hc ?_; clear hc h
      rintro _ w ⟨caq54, ccq55, caq56, ccq57, rfl, h⟩; refine ⟨_, rfl, ?_⟩
      clear hr a; intro a hr
      refine ovs [65, 70, 71, 6, 72] [.tuple #[vI r50, vI r51], vI r50, vI r51, vI r50, pA b13 2] hr ⟨rfl, rfl⟩ (by kernel_rfl) ?_; clear hr a; intro a hr
      replace h : Fit z (sepL (pts b13 (.cells #[vI 0, vB false, vI 0] 39) :: ob96 B0 S52 caq54 ccq55 caq56 ccq57 :: ro2 caq54 ccq55 S52.cell :: ro90 caq56 ccq57 S52.log :: pts b6 (.cells #[vI 0, vB false, vI 0] 39) :: ob57 b5 p1 :: L)) _ := h.sel 6 [3, 0, 1, 2, 4, 5] (by kernel_rfl) (by kernel_rfl)
      refine op_store (wn rfl) rfl hr rfl (by kernel_rfl) (by kernel_rfl) (v := vI r51) rfl rfl (by kernel_rfl) h (i := 2) rfl ?_; clear h; intro w h
      refine wpList_nil ?_
      replace h : Fit z (sepL (pts b13 (.cells #[vI 0, vB false, vI r51] 39) :: ob96 B0 S52 caq54 ccq55 caq56 ccq57 :: ro2 caq54 ccq55 S52.cell :: ro90 caq56 ccq57 S52.log :: pts b6 (.cells #[vI 0, vB false, vI 0] 39) :: ob57 b5 p1 :: L)) _ := h
      refine then_normal ?_
      refine wp_region_lit ?_
      refine ovs [73, 74] [vI r50, pA b13 0] hr ⟨rfl, rfl⟩ (by kernel_rfl) ?_; clear hr a; intro a hr
      refine op_store (wn rfl) rfl hr rfl (by kernel_rfl) (by kernel_rfl) (v := vI r50) rfl rfl (by kernel_rfl) h (i := 0) rfl ?_; clear h; intro w h
      refine wpList_nil ?_
      replace h : Fit z (sepL (pts b13 (.cells #[vI r50, vB false, vI r51] 39) :: ob96 B0 S52 caq54 ccq55 caq56 ccq57 :: ro2 caq54 ccq55 S52.cell :: ro90 caq56 ccq57 S52.log :: pts b6 (.cells #[vI 0, vB false, vI 0] 39) :: ob57 b5 p1 :: L)) _ := h
      refine blk_normal ?_
      refine then_normal ?_
      refine sr ?_
      refine ov hr (pA b13 2) (by kernel_rfl) ?_; clear hr a; intro a hr
      refine ld (wn rfl) hr (vI r51) (h.cell 2 rfl) ?_; clear hr a; intro a hr
      refine ovs [77, 78] [vB (r51 == (0 : Int)), pA b13 1] hr ⟨rfl, rfl⟩ (by kernel_rfl) ?_; clear hr a; intro a hr
      refine op_store (wn rfl) rfl hr rfl (by kernel_rfl) (by kernel_rfl) (v := vB (r51 == (0 : Int))) rfl rfl (by kernel_rfl) h (i := 1) rfl ?_; clear h; intro w h
      refine wpList_nil ?_
      replace h : Fit z (sepL (pts b13 (.cells #[vI r50, vB (r51 == (0 : Int)), vI r51] 39) :: ob96 B0 S52 caq54 ccq55 caq56 ccq57 :: ro2 caq54 ccq55 S52.cell :: ro90 caq56 ccq57 S52.log :: pts b6 (.cells #[vI 0, vB false, vI 0] 39) :: ob57 b5 p1 :: L)) _ := h
      refine then_normal ?_
      refine sr ?_
      refine ldm (wn rfl) hr (.agg #[vI r50, vB (r51 == (0 : Int)), vI r51]) (cs := [vI r50, vB (r51 == (0 : Int)), vI r51]) (h.held 0 rfl) ?_; clear hr a; intro a hr
      replace h : Fit z (sepL (pts b6 (.cells #[vI 0, vB false, vI 0] 39) :: pts b13 (.cells #[vI r50, vB (r51 == (0 : Int)), vI r51] 39) :: ob96 B0 S52 caq54 ccq55 caq56 ccq57 :: ro2 caq54 ccq55 S52.cell :: ro90 caq56 ccq57 S52.log :: ob57 b5 p1 :: L)) _ := h.sel 6 [4, 0, 1, 2, 3, 5] (by kernel_rfl) (by kernel_rfl)
      refine op_stores (wn rfl) rfl hr rfl (by kernel_rfl) (by kernel_rfl) (vs := [vI r50, vB (r51 == (0 : Int)), vI r51]) rfl rfl (by kernel_rfl) h (i := 0) (cs' := #[vI r50, vB (r51 == (0 : Int)), vI r51]) rfl ?_; clear h; intro w h
      refine wpList_nil ?_
      replace h : Fit z (sepL (pts b6 (.cells #[vI r50, vB (r51 == (0 : Int)), vI r51] 39) :: pts b13 (.cells #[vI r50, vB (r51 == (0 : Int)), vI r51] 39) :: ob96 B0 S52 caq54 ccq55 caq56 ccq57 :: ro2 caq54 ccq55 S52.cell :: ro90 caq56 ccq57 S52.log :: ob57 b5 p1 :: L)) _ := h
      refine then_normal ?_
      refine wp_ret ?_
      refine end_retC (cs := [vI r50, vB (r51 == (0 : Int)), vI r51]) rfl hr (by kernel_rfl) (by kernel_rfl) (by kernel_rfl) (h.held 0 rfl) ?_
      replace h : Fit z (sepL (ob96 B0 S52 caq54 ccq55 caq56 ccq57 :: ro2 caq54 ccq55 S52.cell :: ro90 caq56 ccq57 S52.log :: L)) _ := h.sel 6 [2, 3, 4] (by kernel_rfl) (by kernel_rfl)
      replace H := ej2 H; obtain ⟨rfl, rfl⟩ := H
      exact ⟨caq54, ccq55, caq56, ccq57, rfl, h⟩
     ·
      replace H := ifF c49 H
      refine cond_ff hr (b := (p1.Kind == (4 : Int))) (beq_eq_false_iff_ne.mpr c49) ?_
      refine wp_region_lit ?_
      refine ov hr (pA b13 2) (by kernel_rfl) ?_; clear hr a; intro a hr
      refine op_store (wn rfl) rfl hr rfl (by kernel_rfl) (by kernel_rfl) (v := vI 23) rfl rfl (by kernel_rfl) h (i := 2) rfl ?_; clear h; intro w h
      refine wpList_nil ?_
      replace h : Fit z (sepL (pts b13 (.cells #[vI 0, vB false, vI 23] 39) :: ob96 B0 S7 caq9 ccq10 caq11 ccq12 :: ro2 caq9 ccq10 S7.cell :: ro90 caq11 ccq12 S7.log :: pts b6 (.cells #[vI 0, vB false, vI 0] 39) :: ob57 b5 p1 :: L)) _ := h
      refine blk_normal ?_
      refine then_normal ?_
      refine sr ?_
      refine ov hr (pA b13 2) (by kernel_rfl) ?_; clear hr a; intro a hr
      refine ld (wn rfl) hr (vI 23) (h.cell 2 rfl) ?_; clear hr a; intro a hr
      refine ovs [77, 78] [vB false, pA b13 1] hr ⟨rfl, rfl⟩ (by kernel_rfl) ?_; clear hr a; intro a hr
      refine op_store (wn rfl) rfl hr rfl (by kernel_rfl) (by kernel_rfl) (v := vB false) rfl rfl (by kernel_rfl) h (i := 1) rfl ?_; clear h; intro w h
      refine wpList_nil ?_
      replace h : Fit z (sepL (pts b13 (.cells #[vI 0, vB false, vI 23] 39) :: ob96 B0 S7 caq9 ccq10 caq11 ccq12 :: ro2 caq9 ccq10 S7.cell :: ro90 caq11 ccq12 S7.log :: pts b6 (.cells #[vI 0, vB false, vI 0] 39) :: ob57 b5 p1 :: L)) _ := h
      refine then_normal ?_
      refine sr ?_
      refine ldm (wn rfl) hr (.agg #[vI 0, vB false, vI 23]) (cs := [vI 0, vB false, vI 23]) (h.held 0 rfl) ?_; clear hr a; intro a hr
      replace h : Fit z (sepL (pts b6 (.cells #[vI 0, vB false, vI 0] 39) :: pts b13 (.cells #[vI 0, vB false, vI 23] 39) :: ob96 B0 S7 caq9 ccq10 caq11 ccq12 :: ro2 caq9 ccq10 S7.cell :: ro90 caq11 ccq12 S7.log :: ob57 b5 p1 :: L)) _ := h.sel 6 [4, 0, 1, 2, 3, 5] (by kernel_rfl) (by kernel_rfl)
      refine op_stores (wn rfl) rfl hr rfl (by kernel_rfl) (by kernel_rfl) (vs := [vI 0, vB false, vI 23]) rfl rfl (by kernel_rfl) h (i := 0) (cs' := #[vI 0, vB false, vI 23]) rfl ?_; clear h; intro w h
      refine wpList_nil ?_
      replace h : Fit z (sepL (pts b6 (.cells #[vI 0, vB false, vI 23] 39) :: pts b13 (.cells #[vI 0, vB false, vI 23] 39) :: ob96 B0 S7 caq9 ccq10 caq11 ccq12 :: ro2 caq9 ccq10 S7.cell :: ro90 caq11 ccq12 S7.log :: ob57 b5 p1 :: L)) _ := h
      refine then_normal ?_
      refine wp_ret ?_
      refine end_retC (cs := [vI 0, vB false, vI 23]) rfl hr (by kernel_rfl) (by kernel_rfl) (by kernel_rfl) (h.held 0 rfl) ?_
      replace h : Fit z (sepL (ob96 B0 S7 caq9 ccq10 caq11 ccq12 :: ro2 caq9 ccq10 S7.cell :: ro90 caq11 ccq12 S7.log :: L)) _ := h.sel 6 [2, 3, 4] (by kernel_rfl) (by kernel_rfl)
      replace H := ej2 H; obtain ⟨rfl, rfl⟩ := H
      exact ⟨caq9, ccq10, caq11, ccq12, rfl, h⟩

/-- (*plunder/cells.Arena).Cells -/
def cells_Arena_Cells (p0 : T_cells_Arena) : Option ((List Int)) :=
  if 0 ≤ ((p0.cell.length : Nat) : Int) ∧ ((p0.cell.length : Nat) : Int) * 8 ≤ 140737488355328 then if p0.cell.length = (List.replicate p0.cell.length (0 : Int)).length then some p0.cell else none else none
set_option maxRecDepth 100000 in
set_option maxHeartbeats 4000000 in
theorem cells_Arena_Cells_ok {z w : World} {L : List HProp} {p0 : T_cells_Arena} {B0 : Nat} {ca1 : Option Addr} {cc2 : Nat} {ca3 : Option Addr} {cc4 : Nat} {r0 : List Int} (H : cells_Arena_Cells p0 = some r0) (h : Fit z (sepL (ob96 B0 p0 ca1 cc2 ca3 cc4 :: ro2 ca1 cc2 p0.cell :: ro90 ca3 cc4 p0.log :: L)) w)  :
    Calls Try.prog 24 #[pA B0 0] w fun e w => ∃ car0_1 : Option Addr, e = .returned (.slice car0_1 r0.length r0.length) ∧ Fit z (sepL (ob96 B0 p0 ca1 cc2 ca3 cc4 :: ro2 ca1 cc2 p0.cell :: ro90 ca3 cc4 p0.log :: ro2 car0_1 r0.length r0 :: L)) w := by
 unfold cells_Arena_Cells at H
 refine enter Try.func24 rfl 19 rfl rfl [(0, pA B0 0)] ⟨rfl, trivial⟩ ?_
 intro j a hr
 refine sr ?_
 refine ov hr (.slice none 0 0) (by kernel_rfl) ?_; clear hr a; intro a hr
 refine ln ?_
 refine wp_seq ?_
 refine sr ?_
 refine ovs [4, 5] [pA B0 0, vB false] hr ⟨rfl, rfl⟩ (by kernel_rfl) ?_; clear hr a; intro a hr
 refine ln ?_
 refine cond_ff hr (b := false) rfl ?_
 refine wp_skip ?_
 refine then_normal ?_
 refine sr ?_
 refine ovs [6, 7, 8] [pA B0 0, pA B0 0, pA B0 2] hr ⟨rfl, rfl⟩ (by kernel_rfl) ?_; clear hr a; intro a hr
 refine ld (wn rfl) hr (.slice ca1 p0.cell.length cc2) (h.cell 2 rfl) ?_; clear hr a; intro a hr
 replace H := gd H; obtain ⟨c5, H⟩ := H
 refine ov hr (vI ((p0.cell.length : Nat) : Int)) (by kernel_rfl) ?_; clear hr a; intro a hr
 refine op_make_row (i := ((p0.cell.length : Nat) : Int)) (bytes := 8) (zc := #[vI 0]) (0 : Int) (wn rfl) rfl rfl hr rfl (by kernel_rfl) (by kernel_rfl) c5 encZ_i64_ok (E := 2) (by kernel_rfl) (by kernel_rfl) rfl rfl h ?_; clear h hr a; intro ca6 w a h hr
 refine ov hr (.slice ca6 ((List.replicate p0.cell.length (0 : Int)).length) p0.cell.length) (by kernel_rfl) ?_; clear hr a; intro a hr
 refine wpList_nil ?_
 replace h : Fit z (sepL (ro2 ca6 p0.cell.length (List.replicate p0.cell.length (0 : Int)) :: ob96 B0 p0 ca1 cc2 ca3 cc4 :: ro2 ca1 cc2 p0.cell :: ro90 ca3 cc4 p0.log :: L)) _ := h
 refine then_normal ?_
 refine sr ?_
 refine ovs [12, 13, 14, 15] [.slice ca6 ((List.replicate p0.cell.length (0 : Int)).length) p0.cell.length, pA B0 0, pA B0 0, pA B0 2] hr ⟨rfl, rfl⟩ (by kernel_rfl) ?_; clear hr a; intro a hr
 refine ld (wn rfl) hr (.slice ca1 p0.cell.length cc2) ((h.pick 1).cell 2 rfl) ?_; clear hr a; intro a hr
 replace H := gd H; obtain ⟨c7, H⟩ := H
 replace h : Fit z (sepL (ro2 ca6 p0.cell.length (List.replicate p0.cell.length (0 : Int)) :: ro2 ca1 cc2 p0.cell :: ob96 B0 p0 ca1 cc2 ca3 cc4 :: ro90 ca3 cc4 p0.log :: L)) _ := h.sel 4 [0, 2, 1, 3] (by kernel_rfl) (by kernel_rfl)
 refine op_copy_row (wn rfl) rfl rfl hr rfl (by kernel_rfl) (by kernel_rfl) encZ_i64_ok (E := 2) (by kernel_rfl) (by kernel_rfl) c7 h ?_; clear h hr a; intro w a h hr
 refine wpList_nil ?_
 replace h : Fit z (sepL (rowOf 2 1 encZ_i64 (.slice ca6 ((List.replicate p0.cell.length (0 : Int)).length) p0.cell.length) p0.cell :: ro2 ca1 cc2 p0.cell :: ob96 B0 p0 ca1 cc2 ca3 cc4 :: ro90 ca3 cc4 p0.log :: L)) _ := h
 refine then_normal ?_
 refine sr ?_
 refine ovs [18, 2] [.slice ca6 ((List.replicate p0.cell.length (0 : Int)).length) p0.cell.length, .slice ca6 ((List.replicate p0.cell.length (0 : Int)).length) p0.cell.length] hr ⟨rfl, rfl⟩ (by kernel_rfl) ?_; clear hr a; intro a hr
 refine ln ?_
 refine wp_ret ?_
 refine end_ret1 (v := .slice ca6 ((List.replicate p0.cell.length (0 : Int)).length) p0.cell.length) rfl hr (by kernel_rfl) ?_
 have hn7 := h.row_n
 replace h : Fit z (sepL (ro2 ca6 p0.cell.length p0.cell :: ro2 ca1 cc2 p0.cell :: ob96 B0 p0 ca1 cc2 ca3 cc4 :: ro90 ca3 cc4 p0.log :: L)) w := (congrArg (fun q_ : Nat => Fit z (sepL (rowOf 2 1 encZ_i64 (.slice ca6 q_ p0.cell.length) p0.cell :: ro2 ca1 cc2 p0.cell :: ob96 B0 p0 ca1 cc2 ca3 cc4 :: ro90 ca3 cc4 p0.log :: L)) w) h.row_n).mp h
 replace h : Fit z (sepL (ob96 B0 p0 ca1 cc2 ca3 cc4 :: ro2 ca1 cc2 p0.cell :: ro90 ca3 cc4 p0.log :: ro2 ca6 p0.cell.length p0.cell :: L)) _ := h.sel 4 [2, 1, 3, 0] (by kernel_rfl) (by kernel_rfl)
 replace H := ej1 H; subst H
 exact ⟨ca6, (by simp only [hn7]), h⟩

/-- (*plunder/cells.Arena).Log -/
def cells_Arena_Log (p0 : T_cells_Arena) : Option ((List T_api_Access)) :=
  if 0 ≤ ((p0.log.length : Nat) : Int) ∧ ((p0.log.length : Nat) : Int) * 48 ≤ 140737488355328 then if p0.log.length = (List.replicate p0.log.length (⟨0, 0, 0, 0, 0, false⟩ : T_api_Access)).length then some p0.log else none else none
set_option maxRecDepth 100000 in
set_option maxHeartbeats 4000000 in
theorem cells_Arena_Log_ok {z w : World} {L : List HProp} {p0 : T_cells_Arena} {B0 : Nat} {ca1 : Option Addr} {cc2 : Nat} {ca3 : Option Addr} {cc4 : Nat} {r0 : List T_api_Access} (H : cells_Arena_Log p0 = some r0) (h : Fit z (sepL (ob96 B0 p0 ca1 cc2 ca3 cc4 :: ro2 ca1 cc2 p0.cell :: ro90 ca3 cc4 p0.log :: L)) w)  :
    Calls Try.prog 70 #[pA B0 0] w fun e w => ∃ car0_1 : Option Addr, e = .returned (.slice car0_1 r0.length r0.length) ∧ Fit z (sepL (ob96 B0 p0 ca1 cc2 ca3 cc4 :: ro2 ca1 cc2 p0.cell :: ro90 ca3 cc4 p0.log :: ro90 car0_1 r0.length r0 :: L)) w := by
 unfold cells_Arena_Log at H
 refine enter Try.func70 rfl 19 rfl rfl [(0, pA B0 0)] ⟨rfl, trivial⟩ ?_
 intro j a hr
 refine sr ?_
 refine ov hr (.slice none 0 0) (by kernel_rfl) ?_; clear hr a; intro a hr
 refine ln ?_
 refine wp_seq ?_
 refine sr ?_
 refine ovs [4, 5] [pA B0 0, vB false] hr ⟨rfl, rfl⟩ (by kernel_rfl) ?_; clear hr a; intro a hr
 refine ln ?_
 refine cond_ff hr (b := false) rfl ?_
 refine wp_skip ?_
 refine then_normal ?_
 refine sr ?_
 refine ovs [6, 7, 8] [pA B0 0, pA B0 0, pA B0 3] hr ⟨rfl, rfl⟩ (by kernel_rfl) ?_; clear hr a; intro a hr
 refine ld (wn rfl) hr (.slice ca3 p0.log.length cc4) (h.cell 3 rfl) ?_; clear hr a; intro a hr
 replace H := gd H; obtain ⟨c5, H⟩ := H
 refine ov hr (vI ((p0.log.length : Nat) : Int)) (by kernel_rfl) ?_; clear hr a; intro a hr
 refine op_make_row (i := ((p0.log.length : Nat) : Int)) (bytes := 48) (zc := #[vI 0, vI 0, vI 0, vI 0, vI 0, vB false]) (⟨0, 0, 0, 0, 0, false⟩ : T_api_Access) (wn rfl) rfl rfl hr rfl (by kernel_rfl) (by kernel_rfl) c5 enc_T_api_Access_ok (E := 90) (by kernel_rfl) (by kernel_rfl) rfl rfl h ?_; clear h hr a; intro ca6 w a h hr
 refine ov hr (.slice ca6 ((List.replicate p0.log.length (⟨0, 0, 0, 0, 0, false⟩ : T_api_Access)).length) p0.log.length) (by kernel_rfl) ?_; clear hr a; intro a hr
 refine wpList_nil ?_
 replace h : Fit z (sepL (ro90 ca6 p0.log.length (List.replicate p0.log.length (⟨0, 0, 0, 0, 0, false⟩ : T_api_Access)) :: ob96 B0 p0 ca1 cc2 ca3 cc4 :: ro2 ca1 cc2 p0.cell :: ro90 ca3 cc4 p0.log :: L)) _ := h
 refine then_normal ?_
 refine sr ?_
 refine ovs [12, 13, 14, 15] [.slice ca6 ((List.replicate p0.log.length (⟨0, 0, 0, 0, 0, false⟩ : T_api_Access)).length) p0.log.length, pA B0 0, pA B0 0, pA B0 3] hr ⟨rfl, rfl⟩ (by kernel_rfl) ?_; clear hr a; intro a hr
 refine ld (wn rfl) hr (.slice ca3 p0.log.length cc4) ((h.pick 1).cell 3 rfl) ?_; clear hr a; intro a hr
 replace H := gd H; obtain ⟨c7, H⟩ := H
 replace h : Fit z (sepL (ro90 ca6 p0.log.length (List.replicate p0.log.length (⟨0, 0, 0, 0, 0, false⟩ : T_api_Access)) :: ro90 ca3 cc4 p0.log :: ob96 B0 p0 ca1 cc2 ca3 cc4 :: ro2 ca1 cc2 p0.cell :: L)) _ := h.sel 4 [0, 3, 1, 2] (by kernel_rfl) (by kernel_rfl)
 refine op_copy_row (wn rfl) rfl rfl hr rfl (by kernel_rfl) (by kernel_rfl) enc_T_api_Access_ok (E := 90) (by kernel_rfl) (by kernel_rfl) c7 h ?_; clear h hr a; intro w a h hr
 refine wpList_nil ?_
 replace h : Fit z (sepL (rowOf 90 6 enc_T_api_Access (.slice ca6 ((List.replicate p0.log.length (⟨0, 0, 0, 0, 0, false⟩ : T_api_Access)).length) p0.log.length) p0.log :: ro90 ca3 cc4 p0.log :: ob96 B0 p0 ca1 cc2 ca3 cc4 :: ro2 ca1 cc2 p0.cell :: L)) _ := h
 refine then_normal ?_
 refine sr ?_
 refine ovs [18, 2] [.slice ca6 ((List.replicate p0.log.length (⟨0, 0, 0, 0, 0, false⟩ : T_api_Access)).length) p0.log.length, .slice ca6 ((List.replicate p0.log.length (⟨0, 0, 0, 0, 0, false⟩ : T_api_Access)).length) p0.log.length] hr ⟨rfl, rfl⟩ (by kernel_rfl) ?_; clear hr a; intro a hr
 refine ln ?_
 refine wp_ret ?_
 refine end_ret1 (v := .slice ca6 ((List.replicate p0.log.length (⟨0, 0, 0, 0, 0, false⟩ : T_api_Access)).length) p0.log.length) rfl hr (by kernel_rfl) ?_
 have hn7 := h.row_n
 replace h : Fit z (sepL (ro90 ca6 p0.log.length p0.log :: ro90 ca3 cc4 p0.log :: ob96 B0 p0 ca1 cc2 ca3 cc4 :: ro2 ca1 cc2 p0.cell :: L)) w := (congrArg (fun q_ : Nat => Fit z (sepL (rowOf 90 6 enc_T_api_Access (.slice ca6 q_ p0.log.length) p0.log :: ro90 ca3 cc4 p0.log :: ob96 B0 p0 ca1 cc2 ca3 cc4 :: ro2 ca1 cc2 p0.cell :: L)) w) h.row_n).mp h
 replace h : Fit z (sepL (ob96 B0 p0 ca1 cc2 ca3 cc4 :: ro2 ca1 cc2 p0.cell :: ro90 ca3 cc4 p0.log :: ro90 ca6 p0.log.length p0.log :: L)) _ := h.sel 4 [2, 3, 1, 0] (by kernel_rfl) (by kernel_rfl)
 replace H := ej1 H; subst H
 exact ⟨ca6, (by simp only [hn7]), h⟩

/-- (*plunder/cells.Arena).Watch -/
def cells_Arena_Watch_nil (p1 : Bool) : Option (Unit) :=
  some ()
set_option maxRecDepth 100000 in
set_option maxHeartbeats 4000000 in
theorem cells_Arena_Watch_nil_ok {z w : World} {L : List HProp} {p1 : Bool} (H : cells_Arena_Watch_nil p1 = some ()) (h : Fit z (sepL (L)) w)  :
    Calls Try.prog 88 #[pN, vB p1] w fun e w => e = .returned (.tuple #[]) ∧ Fit z (sepL (L)) w := by
 unfold cells_Arena_Watch_nil at H
 refine enter Try.func88 rfl 10 rfl rfl [(0, pN), (1, vB p1)] ⟨rfl, rfl, trivial⟩ ?_
 intro j a hr
 refine sr ?_
 refine ovs [4, 5] [pN, vB false] hr ⟨rfl, rfl⟩ (by kernel_rfl) ?_; clear hr a; intro a hr
 refine ln ?_
 refine cond_ff hr (b := false) rfl ?_
 refine wp_skip ?_
 refine end_norm0 rfl hr ?_
 cases H
 exact ⟨rfl, h⟩

/-- (*plunder/cells.Arena).Who -/
def cells_Arena_Who_nil (p1 : Int) : Option (Unit) :=
  some ()
set_option maxRecDepth 100000 in
set_option maxHeartbeats 4000000 in
theorem cells_Arena_Who_nil_ok {z w : World} {L : List HProp} {p1 : Int} (H : cells_Arena_Who_nil p1 = some ()) (h : Fit z (sepL (L)) w)  :
    Calls Try.prog 96 #[pN, vI p1] w fun e w => e = .returned (.tuple #[]) ∧ Fit z (sepL (L)) w := by
 unfold cells_Arena_Who_nil at H
 refine enter Try.func96 rfl 10 rfl rfl [(0, pN), (1, vI p1)] ⟨rfl, rfl, trivial⟩ ?_
 intro j a hr
 refine sr ?_
 refine ovs [4, 5] [pN, vB false] hr ⟨rfl, rfl⟩ (by kernel_rfl) ?_; clear hr a; intro a hr
 refine ln ?_
 refine cond_ff hr (b := false) rfl ?_
 refine wp_skip ?_
 refine end_norm0 rfl hr ?_
 cases H
 exact ⟨rfl, h⟩

/-- (*plunder/cells.Arena).outside -/
def cells_Arena_outside_nil (p1 : Int) : Option (Bool) :=
  some true
set_option maxRecDepth 100000 in
set_option maxHeartbeats 4000000 in
theorem cells_Arena_outside_nil_ok {z w : World} {L : List HProp} {p1 : Int} {r0 : Bool} (H : cells_Arena_outside_nil p1 = some r0) (h : Fit z (sepL (L)) w)  :
    Calls Try.prog 65 #[pN, vI p1] w fun e w => e = .returned (vB r0) ∧ Fit z (sepL (L)) w := by
 unfold cells_Arena_outside_nil at H
 refine enter Try.func65 rfl 15 rfl rfl [(0, pN), (1, vI p1)] ⟨rfl, rfl, trivial⟩ ?_
 intro j a hr
 refine sr ?_
 refine ov hr (vB false) (by kernel_rfl) ?_; clear hr a; intro a hr
 refine ln ?_
 refine sr ?_
 refine ovs [5, 6, 7] [pN, vB true, vB true] hr ⟨rfl, rfl⟩ (by kernel_rfl) ?_; clear hr a; intro a hr
 refine offg (wgt hr (c := true) rfl) hr ?_; clear hr a; intro a hr
 refine offg (wgt hr (c := true) rfl) hr ?_; clear hr a; intro a hr
 refine offg (wgt hr (c := true) rfl) hr ?_; clear hr a; intro a hr
 refine offg (wgt hr (c := true) rfl) hr ?_; clear hr a; intro a hr
 refine offg (wgt hr (c := true) rfl) hr ?_; clear hr a; intro a hr
 refine offg (wgt hr (c := true) rfl) hr ?_; clear hr a; intro a hr
 refine ovs [14, 4] [vB true, vB true] hr ⟨rfl, rfl⟩ (by kernel_rfl) ?_; clear hr a; intro a hr
 refine ln ?_
 refine wp_ret ?_
 refine end_ret1 (v := vB true) rfl hr (by kernel_rfl) ?_
 replace H := ej1 H; subst H
 exact ⟨rfl, h⟩

/-- (*plunder/cells.Arena).Load -/
def cells_Arena_Load_nil (p1 : Int) : Option (Int × Int) :=
  ob1 (cells_Arena_outside_nil p1) (fun r1 => (if r1 = true then some (0, 20) else none))
set_option maxRecDepth 100000 in
set_option maxHeartbeats 4000000 in
theorem cells_Arena_Load_nil_ok {z w : World} {L : List HProp} {p1 : Int} {r0 : Int} {r1 : Int} (H : cells_Arena_Load_nil p1 = some (r0, r1)) (h : Fit z (sepL (L)) w)  :
    Calls Try.prog 66 #[pN, vI p1] w fun e w => e = .returned (.tuple #[vI r0, vI r1]) ∧ Fit z (sepL (L)) w := by
 unfold cells_Arena_Load_nil at H
 refine enter Try.func66 rfl 22 rfl rfl [(0, pN), (1, vI p1)] ⟨rfl, rfl, trivial⟩ ?_
 intro j a hr
 refine sr ?_
 refine ovs [4, 5] [vI 0, vI 0] hr ⟨rfl, rfl⟩ (by kernel_rfl) ?_; clear hr a; intro a hr
 refine ln ?_
 refine wp_seq ?_
 refine sr ?_
 replace H := bd1 H; obtain ⟨r1, e2, H⟩ := H
 refine ovs [7, 8] [pN, vI p1] hr ⟨rfl, rfl⟩ (by kernel_rfl) ?_; clear hr a; intro a hr
 have hc := cells_Arena_outside_nil_ok (H := e2) (h := h)
 refine op_call (wn rfl) rfl rfl hr (f := 65) (args := #[pN, vI p1]) (by kernel_rfl) hc ?_; clear hc h
 rintro _ w ⟨rfl, h⟩; refine ⟨_, rfl, ?_⟩
 clear hr a; intro a hr
 refine ln ?_
 by_cases c3 : r1 = true
 ·
  replace H := ifT c3 H
  refine cond_tt hr (b := r1) (c3) ?_
  refine sr ?_
  refine ovs [4, 5] [vI 0, vI 20] hr ⟨rfl, rfl⟩ (by kernel_rfl) ?_; clear hr a; intro a hr
  refine ln ?_
  refine wp_ret ?_
  refine then_ret ?_
  refine end_ret2 (v := vI 0) (v' := vI 20) rfl hr (by kernel_rfl) (by kernel_rfl) ?_
  replace H := ej2 H; obtain ⟨rfl, rfl⟩ := H
  exact ⟨rfl, h⟩
 ·
  replace H := ifF c3 H
  refine cond_ff hr (b := r1) (bF c3) ?_
  refine wp_skip ?_
  refine then_normal ?_
  refine sr ?_
  cases H

/-- (*plunder/cells.Arena).Store -/
def cells_Arena_Store_nil (p1 : Int) (p2 : Int) : Option (Int) :=
  ob1 (cells_Arena_outside_nil p1) (fun r1 => (if r1 = true then some 20 else none))
set_option maxRecDepth 100000 in
set_option maxHeartbeats 4000000 in
theorem cells_Arena_Store_nil_ok {z w : World} {L : List HProp} {p1 : Int} {p2 : Int} {r0 : Int} (H : cells_Arena_Store_nil p1 p2 = some r0) (h : Fit z (sepL (L)) w)  :
    Calls Try.prog 21 #[pN, vI p1, vI p2] w fun e w => e = .returned (vI r0) ∧ Fit z (sepL (L)) w := by
 unfold cells_Arena_Store_nil at H
 refine enter Try.func21 rfl 21 rfl rfl [(0, pN), (1, vI p1), (2, vI p2)] ⟨rfl, rfl, rfl, trivial⟩ ?_
 intro j a hr
 refine sr ?_
 refine ov hr (vI 0) (by kernel_rfl) ?_; clear hr a; intro a hr
 refine ln ?_
 refine wp_seq ?_
 refine sr ?_
 replace H := bd1 H; obtain ⟨r1, e2, H⟩ := H
 refine ovs [7, 8] [pN, vI p1] hr ⟨rfl, rfl⟩ (by kernel_rfl) ?_; clear hr a; intro a hr
 have hc := cells_Arena_outside_nil_ok (H := e2) (h := h)
 refine op_call (wn rfl) rfl rfl hr (f := 65) (args := #[pN, vI p1]) (by kernel_rfl) hc ?_; clear hc h
 rintro _ w ⟨rfl, h⟩; refine ⟨_, rfl, ?_⟩
 clear hr a; intro a hr
 refine ln ?_
 by_cases c3 : r1 = true
 ·
  replace H := ifT c3 H
  refine cond_tt hr (b := r1) (c3) ?_
  refine sr ?_
  refine ov hr (vI 20) (by kernel_rfl) ?_; clear hr a; intro a hr
  refine ln ?_
  refine wp_ret ?_
  refine then_ret ?_
  refine end_ret1 (v := vI 20) rfl hr (by kernel_rfl) ?_
  replace H := ej1 H; subst H
  exact ⟨rfl, h⟩
 ·
  replace H := ifF c3 H
  refine cond_ff hr (b := r1) (bF c3) ?_
  refine wp_skip ?_
  refine then_normal ?_
  refine sr ?_
  cases H

/-- (*plunder/cells.Arena).CAS -/
def cells_Arena_CAS_nil (p1 : Int) (p2 : Int) (p3 : Int) : Option (Bool × Int) :=
  ob1 (cells_Arena_outside_nil p1) (fun r1 => (if r1 = true then some (false, 20) else none))
set_option maxRecDepth 100000 in
set_option maxHeartbeats 4000000 in
theorem cells_Arena_CAS_nil_ok {z w : World} {L : List HProp} {p1 : Int} {p2 : Int} {p3 : Int} {r0 : Bool} {r1 : Int} (H : cells_Arena_CAS_nil p1 p2 p3 = some (r0, r1)) (h : Fit z (sepL (L)) w)  :
    Calls Try.prog 67 #[pN, vI p1, vI p2, vI p3] w fun e w => e = .returned (.tuple #[vB r0, vI r1]) ∧ Fit z (sepL (L)) w := by
 unfold cells_Arena_CAS_nil at H
 refine enter Try.func67 rfl 38 rfl rfl [(0, pN), (1, vI p1), (2, vI p2), (3, vI p3)] ⟨rfl, rfl, rfl, rfl, trivial⟩ ?_
 intro j a hr
 refine sr ?_
 refine ovs [8, 9] [vB false, vI 0] hr ⟨rfl, rfl⟩ (by kernel_rfl) ?_; clear hr a; intro a hr
 refine ln ?_
 refine wp_seq ?_
 refine sr ?_
 replace H := bd1 H; obtain ⟨r1, e2, H⟩ := H
 refine ovs [11, 12] [pN, vI p1] hr ⟨rfl, rfl⟩ (by kernel_rfl) ?_; clear hr a; intro a hr
 have hc := cells_Arena_outside_nil_ok (H := e2) (h := h)
 refine op_call (wn rfl) rfl rfl hr (f := 65) (args := #[pN, vI p1]) (by kernel_rfl) hc ?_; clear hc h
 rintro _ w ⟨rfl, h⟩; refine ⟨_, rfl, ?_⟩
 clear hr a; intro a hr
 refine ln ?_
 by_cases c3 : r1 = true
 ·
  replace H := ifT c3 H
  refine cond_tt hr (b := r1) (c3) ?_
  refine sr ?_
  refine ovs [8, 9] [vB false, vI 20] hr ⟨rfl, rfl⟩ (by kernel_rfl) ?_; clear hr a; intro a hr
  refine ln ?_
  refine wp_ret ?_
  refine then_ret ?_
  refine end_ret2 (v := vB false) (v' := vI 20) rfl hr (by kernel_rfl) (by kernel_rfl) ?_
  replace H := ej2 H; obtain ⟨rfl, rfl⟩ := H
  exact ⟨rfl, h⟩
 ·
  replace H := ifF c3 H
  refine cond_ff hr (b := r1) (bF c3) ?_
  refine wp_skip ?_
  refine then_normal ?_
  refine sr ?_
  cases H

/-- (*plunder/cells.Arena).Add -/
def cells_Arena_Add_nil (p1 : Int) (p2 : Int) : Option (Int × Int) :=
  ob1 (cells_Arena_outside_nil p1) (fun r1 => (if r1 = true then some (0, 20) else none))
set_option maxRecDepth 100000 in
set_option maxHeartbeats 4000000 in
theorem cells_Arena_Add_nil_ok {z w : World} {L : List HProp} {p1 : Int} {p2 : Int} {r0 : Int} {r1 : Int} (H : cells_Arena_Add_nil p1 p2 = some (r0, r1)) (h : Fit z (sepL (L)) w)  :
    Calls Try.prog 68 #[pN, vI p1, vI p2] w fun e w => e = .returned (.tuple #[vI r0, vI r1]) ∧ Fit z (sepL (L)) w := by
 unfold cells_Arena_Add_nil at H
 refine enter Try.func68 rfl 39 rfl rfl [(0, pN), (1, vI p1), (2, vI p2)] ⟨rfl, rfl, rfl, trivial⟩ ?_
 intro j a hr
 refine sr ?_
 refine ovs [6, 7] [vI 0, vI 0] hr ⟨rfl, rfl⟩ (by kernel_rfl) ?_; clear hr a; intro a hr
 refine ln ?_
 refine wp_seq ?_
 refine sr ?_
 replace H := bd1 H; obtain ⟨r1, e2, H⟩ := H
 refine ovs [8, 9] [pN, vI p1] hr ⟨rfl, rfl⟩ (by kernel_rfl) ?_; clear hr a; intro a hr
 have hc := cells_Arena_outside_nil_ok (H := e2) (h := h)
 refine op_call (wn rfl) rfl rfl hr (f := 65) (args := #[pN, vI p1]) (by kernel_rfl) hc ?_; clear hc h
 rintro _ w ⟨rfl, h⟩; refine ⟨_, rfl, ?_⟩
 clear hr a; intro a hr
 refine ln ?_
 by_cases c3 : r1 = true
 ·
  replace H := ifT c3 H
  refine cond_tt hr (b := r1) (c3) ?_
  refine sr ?_
  refine ovs [6, 7] [vI 0, vI 20] hr ⟨rfl, rfl⟩ (by kernel_rfl) ?_; clear hr a; intro a hr
  refine ln ?_
  refine wp_ret ?_
  refine then_ret ?_
  refine end_ret2 (v := vI 0) (v' := vI 20) rfl hr (by kernel_rfl) (by kernel_rfl) ?_
  replace H := ej2 H; obtain ⟨rfl, rfl⟩ := H
  exact ⟨rfl, h⟩
 ·
  replace H := ifF c3 H
  refine cond_ff hr (b := r1) (bF c3) ?_
  refine wp_skip ?_
  refine then_normal ?_
  refine sr ?_
  cases H

/-- (*plunder/cells.ledger).refuse -/
def cells_ledger_refuse_nil (p1 : Int) : Option (Int) :=
  (if p1 < (1 : Int) then some 21 else some 22)
set_option maxRecDepth 100000 in
set_option maxHeartbeats 4000000 in
theorem cells_ledger_refuse_nil_ok {z w : World} {L : List HProp} {p1 : Int} {r0 : Int} (H : cells_ledger_refuse_nil p1 = some r0) (h : Fit z (sepL (L)) w)  :
    Calls Try.prog 62 #[pN, vI p1] w fun e w => e = .returned (vI r0) ∧ Fit z (sepL (L)) w := by
 unfold cells_ledger_refuse_nil at H
 refine enter Try.func62 rfl 22 rfl rfl [(0, pN), (1, vI p1)] ⟨rfl, rfl, trivial⟩ ?_
 intro j a hr
 refine sr ?_
 refine ov hr (vI 0) (by kernel_rfl) ?_; clear hr a; intro a hr
 refine ln ?_
 refine wp_seq ?_
 refine sr ?_
 refine ovs [5, 6] [vI p1, vB (decide (p1 < (1 : Int)))] hr ⟨rfl, rfl⟩ (by kernel_rfl) ?_; clear hr a; intro a hr
 refine ln ?_
 by_cases c1 : p1 < (1 : Int)
 ·
  replace H := ifT c1 H
  refine cond_tt hr (b := (decide (p1 < (1 : Int)))) (decide_eq_true c1) ?_
  refine sr ?_
  refine ov hr (vI 21) (by kernel_rfl) ?_; clear hr a; intro a hr
  refine ln ?_
  refine wp_ret ?_
  refine then_ret ?_
  refine end_ret1 (v := vI 21) rfl hr (by kernel_rfl) ?_
  replace H := ej1 H; subst H
  exact ⟨rfl, h⟩
 ·
  replace H := ifF c1 H
  refine cond_ff hr (b := (decide (p1 < (1 : Int)))) (decide_eq_false c1) ?_
  refine wp_skip ?_
  refine then_normal ?_
  refine wp_seq ?_
  refine wp_seq ?_
  refine reg_E (fun w => True) [] h (by kernel_rfl) ?_; intro w h
  change wpAnyE _ _ _ _ _ _ 15 (Array.replicate 15 false) a w
  refine ev 14 0 rfl (by kernel_rfl) (wn rfl) hr (pN) (fun w => by kernel_rfl) ?_; clear hr a; intro a hr
  refine ev 13 1 rfl (by kernel_rfl) (wn rfl) hr (vB true) (fun w => by kernel_rfl) ?_; clear hr a; intro a hr
  refine ev 12 2 rfl (by kernel_rfl) (wn rfl) hr (vB true) (fun w => by kernel_rfl) ?_; clear hr a; intro a hr
  refine eo 11 3 rfl (by kernel_rfl) (wgt hr (c := true) rfl) hr ?_; clear hr a; intro a hr
  refine eo 10 4 rfl (by kernel_rfl) (wgt hr (c := true) rfl) hr ?_; clear hr a; intro a hr
  refine eo 9 5 rfl (by kernel_rfl) (wgt hr (c := true) rfl) hr ?_; clear hr a; intro a hr
  refine eo 8 6 rfl (by kernel_rfl) (wgt hr (c := true) rfl) hr ?_; clear hr a; intro a hr
  refine eo 7 8 rfl (by kernel_rfl) (wgt hr (c := true) rfl) hr ?_; clear hr a; intro a hr
  refine eo 6 9 rfl (by kernel_rfl) (wgt hr (c := true) rfl) hr ?_; clear hr a; intro a hr
  refine eo 5 10 rfl (by kernel_rfl) (wgt hr (c := true) rfl) hr ?_; clear hr a; intro a hr
  refine eo 4 7 rfl (by kernel_rfl) (wgt hr (c := true) rfl) hr ?_; clear hr a; intro a hr
  refine eo 3 11 rfl (by kernel_rfl) (wgt hr (c := true) rfl) hr ?_; clear hr a; intro a hr
  refine eo 2 12 rfl (by kernel_rfl) (wgt hr (c := true) rfl) hr ?_; clear hr a; intro a hr
  refine eo 1 13 rfl (by kernel_rfl) (wgt hr (c := true) rfl) hr ?_; clear hr a; intro a hr
  refine ev 0 14 rfl (by kernel_rfl) (wn rfl) hr (vB true) (fun w => by kernel_rfl) ?_; clear hr a; intro a hr
  refine e_end (by kernel_rfl) ?_
  refine then_normal ?_
  refine cond_tt hr (b := true) rfl ?_
  refine sr ?_
  refine ov hr (vI 22) (by kernel_rfl) ?_; clear hr a; intro a hr
  refine ln ?_
  refine wp_ret ?_
  refine then_ret ?_
  refine end_ret1 (v := vI 22) rfl hr (by kernel_rfl) ?_
  replace H := ej1 H; subst H
  exact ⟨rfl, h⟩

/-- (*plunder/cells.Arena).Reserve -/
def cells_Arena_Reserve_nil (p1 : Int) : Option (Int × Int) :=
  ob0 (some ()) (ob1 (cells_ledger_refuse_nil p1) (fun r3 => (if r3 = (0 : Int) then none else some (0, r3))))
set_option maxRecDepth 100000 in
set_option maxHeartbeats 4000000 in
theorem cells_Arena_Reserve_nil_ok {z w : World} {L : List HProp} {p1 : Int} {r0 : Int} {r1 : Int} (H : cells_Arena_Reserve_nil p1 = some (r0, r1)) (h : Fit z (sepL (L)) w)  :
    Calls Try.prog 20 #[pN, vI p1] w fun e w => e = .returned (.tuple #[vI r0, vI r1]) ∧ Fit z (sepL (L)) w := by
 unfold cells_Arena_Reserve_nil at H
 refine enter Try.func20 rfl 37 rfl rfl [(0, pN), (1, vI p1)] ⟨rfl, rfl, trivial⟩ ?_
 intro j a hr
 refine sr ?_
 refine ovs [4, 5] [vI 0, vI 0] hr ⟨rfl, rfl⟩ (by kernel_rfl) ?_; clear hr a; intro a hr
 refine ln ?_
 refine sr ?_
 refine ov hr (pN) (by kernel_rfl) ?_; clear hr a; intro a hr
 refine ln ?_
 replace H := kd0 H; obtain ⟨o2, H, hK1⟩ := H
 refine cut_rule (β := Unit) (fun _ a w => () = o2 ∧ ∃ j, Rep 37 (lk [(0, pN), (1, vI p1), (6, pN)] j) a ∧ Fit z (sepL (L)) w) ?_ ?_
 ·
  refine sr ?_
  refine ovs [9, 10] [pN, vB false] hr ⟨rfl, rfl⟩ (by kernel_rfl) ?_; clear hr a; intro a hr
  refine ln ?_
  refine cond_ff hr (b := false) rfl ?_
  refine wp_skip ?_
  refine then_normal ?_
  replace hr := hr.fold2 [(0, pN), (1, vI p1), (6, pN)] (by kernel_rfl); obtain ⟨j, hr⟩ := hr
  exact ⟨(), sinj H, j, hr, h⟩
 clear h hr a; rintro _ a w ⟨rfl, j, hr, h⟩
 replace H := kk0 hK1
 refine wp_seq ?_
 refine sr ?_
 replace H := bd1 H; obtain ⟨r3, e4, H⟩ := H
 refine ovs [14, 15] [pN, vI p1] hr ⟨rfl, rfl⟩ (by kernel_rfl) ?_; clear hr a; intro a hr
 have hc := cells_ledger_refuse_nil_ok (H := e4) (h := h)
 refine op_call (wn rfl) rfl rfl hr (f := 62) (args := #[pN, vI p1]) (by kernel_rfl) hc ?_; clear hc h
 rintro _ w ⟨rfl, h⟩; refine ⟨_, rfl, ?_⟩
 clear hr a; intro a hr
 refine ov hr (vI r3) (by kernel_rfl) ?_; clear hr a; intro a hr
 refine ln ?_
 refine sr ?_
 refine ovs [17, 18] [vI r3, vB (r3 != (0 : Int))] hr ⟨rfl, rfl⟩ (by kernel_rfl) ?_; clear hr a; intro a hr
 refine ln ?_
 by_cases c5 : r3 = (0 : Int)
 ·
  replace H := ifT c5 H
  refine cond_ff hr (b := (r3 != (0 : Int))) (bne_eq_false_iff_eq.mpr c5) ?_
  refine wp_skip ?_
  refine then_normal ?_
  refine sr ?_
  cases H
 ·
  replace H := ifF c5 H
  refine cond_tt hr (b := (r3 != (0 : Int))) (bne_iff_ne.mpr c5) ?_
  refine sr ?_
  refine ovs [19, 4, 5] [vI r3, vI 0, vI r3] hr ⟨rfl, rfl⟩ (by kernel_rfl) ?_; clear hr a; intro a hr
  refine ln ?_
  refine wp_ret ?_
  refine then_ret ?_
  refine end_ret2 (v := vI 0) (v' := vI r3) rfl hr (by kernel_rfl) (by kernel_rfl) ?_
  replace H := ej2 H; obtain ⟨rfl, rfl⟩ := H
  exact ⟨rfl, h⟩

/-- (*plunder/cells.Arena).act -/
def cells_Arena_act_nil (p1 : T_api_Act) : Option (T_api_Effect) :=
  ob0 (cells_Arena_Who_nil p1.Who) ((if p1.Kind = (0 : Int) then ob2 (cells_Arena_Load_nil p1.Addr) (fun r6 r7 => some (⟨r6, r7 == (0 : Int), r7⟩ : T_api_Effect)) else (if p1.Kind = (1 : Int) then ob1 (cells_Arena_Store_nil p1.Addr p1.A) (fun r10 => some (⟨0, r10 == (0 : Int), r10⟩ : T_api_Effect)) else (if p1.Kind = (2 : Int) then ob2 (cells_Arena_CAS_nil p1.Addr p1.A p1.B) (fun r13 r14 => some (⟨0, r13, r14⟩ : T_api_Effect)) else (if p1.Kind = (3 : Int) then ob2 (cells_Arena_Add_nil p1.Addr p1.A) (fun r17 r18 => some (⟨r17, r18 == (0 : Int), r18⟩ : T_api_Effect)) else (if p1.Kind = (4 : Int) then ob2 (cells_Arena_Reserve_nil p1.A) (fun r21 r22 => some (⟨r21, r22 == (0 : Int), r22⟩ : T_api_Effect)) else some (⟨0, false, 23⟩ : T_api_Effect)))))))
set_option maxRecDepth 100000 in
set_option maxHeartbeats 4000000 in
theorem cells_Arena_act_nil_ok {z w : World} {L : List HProp} {p1 : T_api_Act} {r0 : T_api_Effect} (H : cells_Arena_act_nil p1 = some r0) (h : Fit z (sepL (L)) w)  :
    Calls Try.prog 89 #[pN, ag_T_api_Act p1] w fun e w => e = .returned (ag_T_api_Effect r0) ∧ Fit z (sepL (L)) w := by
 unfold cells_Arena_act_nil at H
 refine enter Try.func89 rfl 80 rfl rfl [(0, pN), (1, ag_T_api_Act p1)] ⟨rfl, rfl, trivial⟩ ?_
 intro j a hr
 refine sr ?_
 refine op_new (wn rfl) rfl rfl hr h (vf := fun b => .pointer (some ⟨b, 0, none⟩)) (cs := ca_T_api_Act p1) (T := 57) (by kernel_rfl) ?_; clear h hr a; intro b1 w a h hr
 refine op_new (wn rfl) rfl rfl hr h (vf := fun b => .pointer (some ⟨b, 0, none⟩)) (cs := #[vI 0, vB false, vI 0]) (T := 39) (by kernel_rfl) ?_; clear h hr a; intro b2 w a h hr
 refine ln ?_
 refine sr ?_
 refine ovs [7, 8] [pN, pA b1 0] hr ⟨rfl, rfl⟩ (by kernel_rfl) ?_; clear hr a; intro a hr
 refine ld (wn rfl) hr (vI p1.Who) ((h.pick 1).cell 0 rfl) ?_; clear hr a; intro a hr
 replace H := bd0 H; obtain ⟨e3, H⟩ := H
 have hc := cells_Arena_Who_nil_ok (H := e3) (h := h)
 refine op_call (wn rfl) rfl rfl hr (f := 96) (args := #[pN, vI p1.Who]) (by kernel_rfl) hc ?_; clear hc h
 rintro _ w ⟨rfl, h⟩; refine ⟨_, rfl, ?_⟩
 clear hr a; intro a hr
 refine ln ?_
 refine sr ?_
 refine op_new (wn rfl) rfl rfl hr h (vf := fun b => .pointer (some ⟨b, 0, none⟩)) (cs := #[vI 0, vB false, vI 0]) (T := 39) (by kernel_rfl) ?_; clear h hr a; intro b4 w a h hr
 refine ln ?_
 refine wp_seq ?_
 refine sr ?_
 refine ov hr (pA b1 1) (by kernel_rfl) ?_; clear hr a; intro a hr
 refine ld (wn rfl) hr (vI p1.Kind) ((h.pick 2).cell 1 rfl) ?_; clear hr a; intro a hr
 refine ln ?_
 refine wp_block ?_
 refine sr ?_
 refine ovs [15, 14] [vB (p1.Kind == (0 : Int)), vB (p1.Kind == (0 : Int))] hr ⟨rfl, rfl⟩ (by kernel_rfl) ?_; clear hr a; intro a hr
 refine ln ?_
 by_cases c5 : p1.Kind = (0 : Int)
 ·
  replace H := ifT c5 H
  refine cond_tt hr (b := (p1.Kind == (0 : Int))) (beq_iff_eq.mpr c5) ?_
  refine wp_region_lit ?_
  refine ovs [17, 18] [pN, pA b1 2] hr ⟨rfl, rfl⟩ (by kernel_rfl) ?_; clear hr a; intro a hr
  refine ld (wn rfl) hr (vI p1.Addr) ((h.pick 2).cell 2 rfl) ?_; clear hr a; intro a hr
  replace H := bd2 H; obtain ⟨r6, r7, e8, H⟩ := H
  have hc := cells_Arena_Load_nil_ok (H := e8) (h := h)
  refine op_call (wn rfl) rfl rfl hr (f := 66) (args := #[pN, vI p1.Addr]) (by kernel_rfl) hc ?_; clear hc h
  rintro _ w ⟨rfl, h⟩; refine ⟨_, rfl, ?_⟩
  clear hr a; intro a hr
  refine ovs [16, 21, 22, 23] [.tuple #[vI r6, vI r7], vI r6, vI r7, pA b4 0] hr ⟨rfl, rfl⟩ (by kernel_rfl) ?_; clear hr a; intro a hr
  refine op_store (wn rfl) rfl hr rfl (by kernel_rfl) (by kernel_rfl) (v := vI r6) rfl rfl (by kernel_rfl) h (i := 0) rfl ?_; clear h; intro w h
  refine ov hr (pA b4 2) (by kernel_rfl) ?_; clear hr a; intro a hr
  refine op_store (wn rfl) rfl hr rfl (by kernel_rfl) (by kernel_rfl) (v := vI r7) rfl rfl (by kernel_rfl) h (i := 2) rfl ?_; clear h; intro w h
  refine wpList_nil ?_
  replace h : Fit z (sepL (pts b4 (.cells #[vI r6, vB false, vI r7] 39) :: pts b2 (.cells #[vI 0, vB false, vI 0] 39) :: ob57 b1 p1 :: L)) _ := h
  refine blk_normal ?_
  refine then_normal ?_
  refine sr ?_
  refine ov hr (pA b4 2) (by kernel_rfl) ?_; clear hr a; intro a hr
  refine ld (wn rfl) hr (vI r7) (h.cell 2 rfl) ?_; clear hr a; intro a hr
  refine ovs [77, 78] [vB (r7 == (0 : Int)), pA b4 1] hr ⟨rfl, rfl⟩ (by kernel_rfl) ?_; clear hr a; intro a hr
  refine op_store (wn rfl) rfl hr rfl (by kernel_rfl) (by kernel_rfl) (v := vB (r7 == (0 : Int))) rfl rfl (by kernel_rfl) h (i := 1) rfl ?_; clear h; intro w h
  refine wpList_nil ?_
  replace h : Fit z (sepL (pts b4 (.cells #[vI r6, vB (r7 == (0 : Int)), vI r7] 39) :: pts b2 (.cells #[vI 0, vB false, vI 0] 39) :: ob57 b1 p1 :: L)) _ := h
  refine then_normal ?_
  refine sr ?_
  refine ldm (wn rfl) hr (.agg #[vI r6, vB (r7 == (0 : Int)), vI r7]) (cs := [vI r6, vB (r7 == (0 : Int)), vI r7]) (h.held 0 rfl) ?_; clear hr a; intro a hr
  replace h : Fit z (sepL (pts b2 (.cells #[vI 0, vB false, vI 0] 39) :: pts b4 (.cells #[vI r6, vB (r7 == (0 : Int)), vI r7] 39) :: ob57 b1 p1 :: L)) _ := h.sel 3 [1, 0, 2] (by kernel_rfl) (by kernel_rfl)
  refine op_stores (wn rfl) rfl hr rfl (by kernel_rfl) (by kernel_rfl) (vs := [vI r6, vB (r7 == (0 : Int)), vI r7]) rfl rfl (by kernel_rfl) h (i := 0) (cs' := #[vI r6, vB (r7 == (0 : Int)), vI r7]) rfl ?_; clear h; intro w h
  refine wpList_nil ?_
  replace h : Fit z (sepL (pts b2 (.cells #[vI r6, vB (r7 == (0 : Int)), vI r7] 39) :: pts b4 (.cells #[vI r6, vB (r7 == (0 : Int)), vI r7] 39) :: ob57 b1 p1 :: L)) _ := h
  refine then_normal ?_
  refine wp_ret ?_
  refine end_retC (cs := [vI r6, vB (r7 == (0 : Int)), vI r7]) rfl hr (by kernel_rfl) (by kernel_rfl) (by kernel_rfl) (h.held 0 rfl) ?_
  replace h : Fit z (sepL (L)) _ := h.sel 3 [] (by kernel_rfl) (by kernel_rfl)
  replace H := ej1 H; subst H
  exact ⟨rfl, h⟩
 ·
  replace H := ifF c5 H
  refine cond_ff hr (b := (p1.Kind == (0 : Int))) (beq_eq_false_iff_ne.mpr c5) ?_
  refine sr ?_
  refine ovs [26, 25] [vB (p1.Kind == (1 : Int)), vB (p1.Kind == (1 : Int))] hr ⟨rfl, rfl⟩ (by kernel_rfl) ?_; clear hr a; intro a hr
  refine ln ?_
  by_cases c9 : p1.Kind = (1 : Int)
  ·
   replace H := ifT c9 H
   refine cond_tt hr (b := (p1.Kind == (1 : Int))) (beq_iff_eq.mpr c9) ?_
   refine wp_region_lit ?_
   refine ovs [27, 28] [pN, pA b1 2] hr ⟨rfl, rfl⟩ (by kernel_rfl) ?_; clear hr a; intro a hr
   refine ld (wn rfl) hr (vI p1.Addr) ((h.pick 2).cell 2 rfl) ?_; clear hr a; intro a hr
   refine ov hr (pA b1 3) (by kernel_rfl) ?_; clear hr a; intro a hr
   refine ld (wn rfl) hr (vI p1.A) ((h.pick 2).cell 3 rfl) ?_; clear hr a; intro a hr
   replace H := bd1 H; obtain ⟨r10, e11, H⟩ := H
   have hc := cells_Arena_Store_nil_ok (H := e11) (h := h)
   refine op_call (wn rfl) rfl rfl hr (f := 21) (args := #[pN, vI p1.Addr, vI p1.A]) (by kernel_rfl) hc ?_; clear hc h
   rintro _ w ⟨rfl, h⟩; refine ⟨_, rfl, ?_⟩
   clear hr a; intro a hr
   refine ov hr (pA b4 2) (by kernel_rfl) ?_; clear hr a; intro a hr
   refine op_store (wn rfl) rfl hr rfl (by kernel_rfl) (by kernel_rfl) (v := vI r10) rfl rfl (by kernel_rfl) h (i := 2) rfl ?_; clear h; intro w h
   refine wpList_nil ?_
   replace h : Fit z (sepL (pts b4 (.cells #[vI 0, vB false, vI r10] 39) :: pts b2 (.cells #[vI 0, vB false, vI 0] 39) :: ob57 b1 p1 :: L)) _ := h
   refine blk_normal ?_
   refine then_normal ?_
   refine sr ?_
   refine ov hr (pA b4 2) (by kernel_rfl) ?_; clear hr a; intro a hr
   refine ld (wn rfl) hr (vI r10) (h.cell 2 rfl) ?_; clear hr a; intro a hr
   refine ovs [77, 78] [vB (r10 == (0 : Int)), pA b4 1] hr ⟨rfl, rfl⟩ (by kernel_rfl) ?_; clear hr a; intro a hr
   refine op_store (wn rfl) rfl hr rfl (by kernel_rfl) (by kernel_rfl) (v := vB (r10 == (0 : Int))) rfl rfl (by kernel_rfl) h (i := 1) rfl ?_; clear h; intro w h
   refine wpList_nil ?_
   replace h : Fit z (sepL (pts b4 (.cells #[vI 0, vB (r10 == (0 : Int)), vI r10] 39) :: pts b2 (.cells #[vI 0, vB false, vI 0] 39) :: ob57 b1 p1 :: L)) _ := h
   refine then_normal ?_
   refine sr ?_
   refine ldm (wn rfl) hr (.agg #[vI 0, vB (r10 == (0 : Int)), vI r10]) (cs := [vI 0, vB (r10 == (0 : Int)), vI r10]) (h.held 0 rfl) ?_; clear hr a; intro a hr
   replace h : Fit z (sepL (pts b2 (.cells #[vI 0, vB false, vI 0] 39) :: pts b4 (.cells #[vI 0, vB (r10 == (0 : Int)), vI r10] 39) :: ob57 b1 p1 :: L)) _ := h.sel 3 [1, 0, 2] (by kernel_rfl) (by kernel_rfl)
   refine op_stores (wn rfl) rfl hr rfl (by kernel_rfl) (by kernel_rfl) (vs := [vI 0, vB (r10 == (0 : Int)), vI r10]) rfl rfl (by kernel_rfl) h (i := 0) (cs' := #[vI 0, vB (r10 == (0 : Int)), vI r10]) rfl ?_; clear h; intro w h
   refine wpList_nil ?_
   replace h : Fit z (sepL (pts b2 (.cells #[vI 0, vB (r10 == (0 : Int)), vI r10] 39) :: pts b4 (.cells #[vI 0, vB (r10 == (0 : Int)), vI r10] 39) :: ob57 b1 p1 :: L)) _ := h
   refine then_normal ?_
   refine wp_ret ?_
   refine end_retC (cs := [vI 0, vB (r10 == (0 : Int)), vI r10]) rfl hr (by kernel_rfl) (by kernel_rfl) (by kernel_rfl) (h.held 0 rfl) ?_
   replace h : Fit z (sepL (L)) _ := h.sel 3 [] (by kernel_rfl) (by kernel_rfl)
   replace H := ej1 H; subst H
   exact ⟨rfl, h⟩
  ·
   replace H := ifF c9 H
   refine cond_ff hr (b := (p1.Kind == (1 : Int))) (beq_eq_false_iff_ne.mpr c9) ?_
   refine sr ?_
   refine ovs [35, 34] [vB (p1.Kind == (2 : Int)), vB (p1.Kind == (2 : Int))] hr ⟨rfl, rfl⟩ (by kernel_rfl) ?_; clear hr a; intro a hr
   refine ln ?_
   by_cases c12 : p1.Kind = (2 : Int)
   ·
    replace H := ifT c12 H
    refine cond_tt hr (b := (p1.Kind == (2 : Int))) (beq_iff_eq.mpr c12) ?_
    refine sr ?_
    refine ovs [37, 38] [pN, pA b1 2] hr ⟨rfl, rfl⟩ (by kernel_rfl) ?_; clear hr a; intro a hr
    refine ld (wn rfl) hr (vI p1.Addr) ((h.pick 2).cell 2 rfl) ?_; clear hr a; intro a hr
    refine ov hr (pA b1 3) (by kernel_rfl) ?_; clear hr a; intro a hr
    refine ld (wn rfl) hr (vI p1.A) ((h.pick 2).cell 3 rfl) ?_; clear hr a; intro a hr
    refine ov hr (pA b1 4) (by kernel_rfl) ?_; clear hr a; intro a hr
    refine ld (wn rfl) hr (vI p1.B) ((h.pick 2).cell 4 rfl) ?_; clear hr a; intro a hr
    replace H := bd2 H; obtain ⟨r13, r14, e15, H⟩ := H
    have hc := cells_Arena_CAS_nil_ok (H := e15) (h := h)
    refine op_call (wn rfl) rfl rfl hr (f := 67) (args := #[pN, vI p1.Addr, vI p1.A, vI p1.B]) (by kernel_rfl) hc ?_; clear hc h
    rintro _ w ⟨rfl, h⟩; refine ⟨_, rfl, ?_⟩
    clear hr a; intro a hr
    refine ovs [36, 45, 46, 47] [.tuple #[vB r13, vI r14], vB r13, vI r14, pA b4 1] hr ⟨rfl, rfl⟩ (by kernel_rfl) ?_; clear hr a; intro a hr
    refine op_store (wn rfl) rfl hr rfl (by kernel_rfl) (by kernel_rfl) (v := vB r13) rfl rfl (by kernel_rfl) h (i := 1) rfl ?_; clear h; intro w h
    refine ov hr (pA b4 2) (by kernel_rfl) ?_; clear hr a; intro a hr
    refine op_store (wn rfl) rfl hr rfl (by kernel_rfl) (by kernel_rfl) (v := vI r14) rfl rfl (by kernel_rfl) h (i := 2) rfl ?_; clear h; intro w h
    refine wpList_nil ?_
    replace h : Fit z (sepL (pts b4 (.cells #[vI 0, vB r13, vI r14] 39) :: pts b2 (.cells #[vI 0, vB false, vI 0] 39) :: ob57 b1 p1 :: L)) _ := h
    refine then_normal ?_
    refine sr ?_
    refine ldm (wn rfl) hr (.agg #[vI 0, vB r13, vI r14]) (cs := [vI 0, vB r13, vI r14]) (h.held 0 rfl) ?_; clear hr a; intro a hr
    replace h : Fit z (sepL (pts b2 (.cells #[vI 0, vB false, vI 0] 39) :: pts b4 (.cells #[vI 0, vB r13, vI r14] 39) :: ob57 b1 p1 :: L)) _ := h.sel 3 [1, 0, 2] (by kernel_rfl) (by kernel_rfl)
    refine op_stores (wn rfl) rfl hr rfl (by kernel_rfl) (by kernel_rfl) (vs := [vI 0, vB r13, vI r14]) rfl rfl (by kernel_rfl) h (i := 0) (cs' := #[vI 0, vB r13, vI r14]) rfl ?_; clear h; intro w h
    refine wpList_nil ?_
    replace h : Fit z (sepL (pts b2 (.cells #[vI 0, vB r13, vI r14] 39) :: pts b4 (.cells #[vI 0, vB r13, vI r14] 39) :: ob57 b1 p1 :: L)) _ := h
    refine then_normal ?_
    refine wp_ret ?_
    refine blk_ret ?_
    refine then_ret ?_
    refine end_retC (cs := [vI 0, vB r13, vI r14]) rfl hr (by kernel_rfl) (by kernel_rfl) (by kernel_rfl) (h.held 0 rfl) ?_
    replace h : Fit z (sepL (L)) _ := h.sel 3 [] (by kernel_rfl) (by kernel_rfl)
    replace H := ej1 H; subst H
    exact ⟨rfl, h⟩
   ·
    replace H := ifF c12 H
    refine cond_ff hr (b := (p1.Kind == (2 : Int))) (beq_eq_false_iff_ne.mpr c12) ?_
    refine sr ?_
    refine ovs [51, 50] [vB (p1.Kind == (3 : Int)), vB (p1.Kind == (3 : Int))] hr ⟨rfl, rfl⟩ (by kernel_rfl) ?_; clear hr a; intro a hr
    refine ln ?_
    by_cases c16 : p1.Kind = (3 : Int)
    ·
     replace H := ifT c16 H
     refine cond_tt hr (b := (p1.Kind == (3 : Int))) (beq_iff_eq.mpr c16) ?_
     refine wp_region_lit ?_
     refine ovs [53, 54] [pN, pA b1 2] hr ⟨rfl, rfl⟩ (by kernel_rfl) ?_; clear hr a; intro a hr
     refine ld (wn rfl) hr (vI p1.Addr) ((h.pick 2).cell 2 rfl) ?_; clear hr a; intro a hr
     refine ov hr (pA b1 3) (by kernel_rfl) ?_; clear hr a; intro a hr
     refine ld (wn rfl) hr (vI p1.A) ((h.pick 2).cell 3 rfl) ?_; clear hr a; intro a hr
     replace H := bd2 H; obtain ⟨r17, r18, e19, H⟩ := H
     have hc := cells_Arena_Add_nil_ok (H := e19) (h := h)
     refine op_call (wn rfl) rfl rfl hr (f := 68) (args := #[pN, vI p1.Addr, vI p1.A]) (by kernel_rfl) hc ?_; clear hc h
     rintro _ w ⟨rfl, h⟩; refine ⟨_, rfl, ?_⟩
     clear hr a; intro a hr
     refine ovs [52, 59, 60, 61] [.tuple #[vI r17, vI r18], vI r17, vI r18, pA b4 0] hr ⟨rfl, rfl⟩ (by kernel_rfl) ?_; clear hr a; intro a hr
     refine op_store (wn rfl) rfl hr rfl (by kernel_rfl) (by kernel_rfl) (v := vI r17) rfl rfl (by kernel_rfl) h (i := 0) rfl ?_; clear h; intro w h
     refine ov hr (pA b4 2) (by kernel_rfl) ?_; clear hr a; intro a hr
     refine op_store (wn rfl) rfl hr rfl (by kernel_rfl) (by kernel_rfl) (v := vI r18) rfl rfl (by kernel_rfl) h (i := 2) rfl ?_; clear h; intro w h
     refine wpList_nil ?_
     replace h : Fit z (sepL (pts b4 (.cells #[vI r17, vB false, vI r18] 39) :: pts b2 (.cells #[vI 0, vB false, vI 0] 39) :: ob57 b1 p1 :: L)) _ := h
     refine blk_normal ?_
     refine then_normal ?_
     refine sr ?_
     refine ov hr (pA b4 2) (by kernel_rfl) ?_; clear hr a; intro a hr
     refine ld (wn rfl) hr (vI r18) (h.cell 2 rfl) ?_; clear hr a; intro a hr
     refine ovs [77, 78] [vB (r18 == (0 : Int)), pA b4 1] hr ⟨rfl, rfl⟩ (by kernel_rfl) ?_; clear hr a; intro a hr
     refine op_store (wn rfl) rfl hr rfl (by kernel_rfl) (by kernel_rfl) (v := vB (r18 == (0 : Int))) rfl rfl (by kernel_rfl) h (i := 1) rfl ?_; clear h; intro w h
     refine wpList_nil ?_
     replace h : Fit z (sepL (pts b4 (.cells #[vI r17, vB (r18 == (0 : Int)), vI r18] 39) :: pts b2 (.cells #[vI 0, vB false, vI 0] 39) :: ob57 b1 p1 :: L)) _ := h
     refine then_normal ?_
     refine sr ?_
     refine ldm (wn rfl) hr (.agg #[vI r17, vB (r18 == (0 : Int)), vI r18]) (cs := [vI r17, vB (r18 == (0 : Int)), vI r18]) (h.held 0 rfl) ?_; clear hr a; intro a hr
     replace h : Fit z (sepL (pts b2 (.cells #[vI 0, vB false, vI 0] 39) :: pts b4 (.cells #[vI r17, vB (r18 == (0 : Int)), vI r18] 39) :: ob57 b1 p1 :: L)) _ := h.sel 3 [1, 0, 2] (by kernel_rfl) (by kernel_rfl)
     refine op_stores (wn rfl) rfl hr rfl (by kernel_rfl) (by kernel_rfl) (vs := [vI r17, vB (r18 == (0 : Int)), vI r18]) rfl rfl (by kernel_rfl) h (i := 0) (cs' := #[vI r17, vB (r18 == (0 : Int)), vI r18]) rfl ?_; clear h; intro w h
     refine wpList_nil ?_
     replace h : Fit z (sepL (pts b2 (.cells #[vI r17, vB (r18 == (0 : Int)), vI r18] 39) :: pts b4 (.cells #[vI r17, vB (r18 == (0 : Int)), vI r18] 39) :: ob57 b1 p1 :: L)) _ := h
     refine then_normal ?_
     refine wp_ret ?_
     refine end_retC (cs := [vI r17, vB (r18 == (0 : Int)), vI r18]) rfl hr (by kernel_rfl) (by kernel_rfl) (by kernel_rfl) (h.held 0 rfl) ?_
     replace h : Fit z (sepL (L)) _ := h.sel 3 [] (by kernel_rfl) (by kernel_rfl)
     replace H := ej1 H; subst H
     exact ⟨rfl, h⟩
    ·
     replace H := ifF c16 H
     refine cond_ff hr (b := (p1.Kind == (3 : Int))) (beq_eq_false_iff_ne.mpr c16) ?_
     refine sr ?_
     refine ovs [64, 63] [vB (p1.Kind == (4 : Int)), vB (p1.Kind == (4 : Int))] hr ⟨rfl, rfl⟩ (by kernel_rfl) ?_; clear hr a; intro a hr
     refine ln ?_
     by_cases c20 : p1.Kind = (4 : Int)
     ·
      replace H := ifT c20 H
      refine cond_tt hr (b := (p1.Kind == (4 : Int))) (beq_iff_eq.mpr c20) ?_
      refine sr ?_
      refine ov hr (vI 0) (by kernel_rfl) ?_; clear hr a; intro a hr
      refine ln ?_
      refine sr ?_
      refine ovs [66, 67] [pN, pA b1 3] hr ⟨rfl, rfl⟩ (by kernel_rfl) ?_; clear hr a; intro a hr
      refine ld (wn rfl) hr (vI p1.A) ((h.pick 2).cell 3 rfl) ?_; clear hr a; intro a hr
      replace H := bd2 H; obtain ⟨r21, r22, e23, H⟩ := H
      have hc := cells_Arena_Reserve_nil_ok (H := e23) (h := h)
      refine op_call (wn rfl) rfl rfl hr (f := 20) (args := #[pN, vI p1.A]) (by kernel_rfl) hc ?_; clear hc h
      rintro _ w ⟨rfl, h⟩; refine ⟨_, rfl, ?_⟩
      clear hr a; intro a hr
      refine ovs [65, 70, 71, 6, 72] [.tuple #[vI r21, vI r22], vI r21, vI r22, vI r21, pA b4 2] hr ⟨rfl, rfl⟩ (by kernel_rfl) ?_; clear hr a; intro a hr
      refine op_store (wn rfl) rfl hr rfl (by kernel_rfl) (by kernel_rfl) (v := vI r22) rfl rfl (by kernel_rfl) h (i := 2) rfl ?_; clear h; intro w h
      refine wpList_nil ?_
      replace h : Fit z (sepL (pts b4 (.cells #[vI 0, vB false, vI r22] 39) :: pts b2 (.cells #[vI 0, vB false, vI 0] 39) :: ob57 b1 p1 :: L)) _ := h
      refine then_normal ?_
      refine wp_region_lit ?_
      refine ovs [73, 74] [vI r21, pA b4 0] hr ⟨rfl, rfl⟩ (by kernel_rfl) ?_; clear hr a; intro a hr
      refine op_store (wn rfl) rfl hr rfl (by kernel_rfl) (by kernel_rfl) (v := vI r21) rfl rfl (by kernel_rfl) h (i := 0) rfl ?_; clear h; intro w h
      refine wpList_nil ?_
      replace h : Fit z (sepL (pts b4 (.cells #[vI r21, vB false, vI r22] 39) :: pts b2 (.cells #[vI 0, vB false, vI 0] 39) :: ob57 b1 p1 :: L)) _ := h
      refine blk_normal ?_
      refine then_normal ?_
      refine sr ?_
      refine ov hr (pA b4 2) (by kernel_rfl) ?_; clear hr a; intro a hr
      refine ld (wn rfl) hr (vI r22) (h.cell 2 rfl) ?_; clear hr a; intro a hr
      refine ovs [77, 78] [vB (r22 == (0 : Int)), pA b4 1] hr ⟨rfl, rfl⟩ (by kernel_rfl) ?_; clear hr a; intro a hr
      refine op_store (wn rfl) rfl hr rfl (by kernel_rfl) (by kernel_rfl) (v := vB (r22 == (0 : Int))) rfl rfl (by kernel_rfl) h (i := 1) rfl ?_; clear h; intro w h
      refine wpList_nil ?_
      replace h : Fit z (sepL (pts b4 (.cells #[vI r21, vB (r22 == (0 : Int)), vI r22] 39) :: pts b2 (.cells #[vI 0, vB false, vI 0] 39) :: ob57 b1 p1 :: L)) _ := h
      refine then_normal ?_
      refine sr ?_
      refine ldm (wn rfl) hr (.agg #[vI r21, vB (r22 == (0 : Int)), vI r22]) (cs := [vI r21, vB (r22 == (0 : Int)), vI r22]) (h.held 0 rfl) ?_; clear hr a; intro a hr
      replace h : Fit z (sepL (pts b2 (.cells #[vI 0, vB false, vI 0] 39) :: pts b4 (.cells #[vI r21, vB (r22 == (0 : Int)), vI r22] 39) :: ob57 b1 p1 :: L)) _ := h.sel 3 [1, 0, 2] (by kernel_rfl) (by kernel_rfl)
      refine op_stores (wn rfl) rfl hr rfl (by kernel_rfl) (by kernel_rfl) (vs := [vI r21, vB (r22 == (0 : Int)), vI r22]) rfl rfl (by kernel_rfl) h (i := 0) (cs' := #[vI r21, vB (r22 == (0 : Int)), vI r22]) rfl ?_; clear h; intro w h
      refine wpList_nil ?_
      replace h : Fit z (sepL (pts b2 (.cells #[vI r21, vB (r22 == (0 : Int)), vI r22] 39) :: pts b4 (.cells #[vI r21, vB (r22 == (0 : Int)), vI r22] 39) :: ob57 b1 p1 :: L)) _ := h
      refine then_normal ?_
      refine wp_ret ?_
      refine end_retC (cs := [vI r21, vB (r22 == (0 : Int)), vI r22]) rfl hr (by kernel_rfl) (by kernel_rfl) (by kernel_rfl) (h.held 0 rfl) ?_
      replace h : Fit z (sepL (L)) _ := h.sel 3 [] (by kernel_rfl) (by kernel_rfl)
      replace H := ej1 H; subst H
      exact ⟨rfl, h⟩
     ·
      replace H := ifF c20 H
      refine cond_ff hr (b := (p1.Kind == (4 : Int))) (beq_eq_false_iff_ne.mpr c20) ?_
      refine wp_region_lit ?_
      refine ov hr (pA b4 2) (by kernel_rfl) ?_; clear hr a; intro a hr
      refine op_store (wn rfl) rfl hr rfl (by kernel_rfl) (by kernel_rfl) (v := vI 23) rfl rfl (by kernel_rfl) h (i := 2) rfl ?_; clear h; intro w h
      refine wpList_nil ?_
      replace h : Fit z (sepL (pts b4 (.cells #[vI 0, vB false, vI 23] 39) :: pts b2 (.cells #[vI 0, vB false, vI 0] 39) :: ob57 b1 p1 :: L)) _ := h
      refine blk_normal ?_
      refine then_normal ?_
      refine sr ?_
      refine ov hr (pA b4 2) (by kernel_rfl) ?_; clear hr a; intro a hr
      refine ld (wn rfl) hr (vI 23) (h.cell 2 rfl) ?_; clear hr a; intro a hr
      refine ovs [77, 78] [vB false, pA b4 1] hr ⟨rfl, rfl⟩ (by kernel_rfl) ?_; clear hr a; intro a hr
      refine op_store (wn rfl) rfl hr rfl (by kernel_rfl) (by kernel_rfl) (v := vB false) rfl rfl (by kernel_rfl) h (i := 1) rfl ?_; clear h; intro w h
      refine wpList_nil ?_
      replace h : Fit z (sepL (pts b4 (.cells #[vI 0, vB false, vI 23] 39) :: pts b2 (.cells #[vI 0, vB false, vI 0] 39) :: ob57 b1 p1 :: L)) _ := h
      refine then_normal ?_
      refine sr ?_
      refine ldm (wn rfl) hr (.agg #[vI 0, vB false, vI 23]) (cs := [vI 0, vB false, vI 23]) (h.held 0 rfl) ?_; clear hr a; intro a hr
      replace h : Fit z (sepL (pts b2 (.cells #[vI 0, vB false, vI 0] 39) :: pts b4 (.cells #[vI 0, vB false, vI 23] 39) :: ob57 b1 p1 :: L)) _ := h.sel 3 [1, 0, 2] (by kernel_rfl) (by kernel_rfl)
      refine op_stores (wn rfl) rfl hr rfl (by kernel_rfl) (by kernel_rfl) (vs := [vI 0, vB false, vI 23]) rfl rfl (by kernel_rfl) h (i := 0) (cs' := #[vI 0, vB false, vI 23]) rfl ?_; clear h; intro w h
      refine wpList_nil ?_
      replace h : Fit z (sepL (pts b2 (.cells #[vI 0, vB false, vI 23] 39) :: pts b4 (.cells #[vI 0, vB false, vI 23] 39) :: ob57 b1 p1 :: L)) _ := h
      refine then_normal ?_
      refine wp_ret ?_
      refine end_retC (cs := [vI 0, vB false, vI 23]) rfl hr (by kernel_rfl) (by kernel_rfl) (by kernel_rfl) (h.held 0 rfl) ?_
      replace h : Fit z (sepL (L)) _ := h.sel 3 [] (by kernel_rfl) (by kernel_rfl)
      replace H := ej1 H; subst H
      exact ⟨rfl, h⟩

/-- (*plunder/cells.Arena).Cells -/
def cells_Arena_Cells_nil : Option ((List Int)) :=
  some ([] : List Int)
set_option maxRecDepth 100000 in
set_option maxHeartbeats 4000000 in
theorem cells_Arena_Cells_nil_ok {z w : World} {L : List HProp}  {r0 : List Int} (H : cells_Arena_Cells_nil = some r0) (h : Fit z (sepL (L)) w)  :
    Calls Try.prog 24 #[pN] w fun e w => ∃ car0_1 : Option Addr, e = .returned (.slice car0_1 r0.length r0.length) ∧ Fit z (sepL (ro2 car0_1 r0.length r0 :: L)) w := by
 unfold cells_Arena_Cells_nil at H
 refine enter Try.func24 rfl 19 rfl rfl [(0, pN)] ⟨rfl, trivial⟩ ?_
 intro j a hr
 refine sr ?_
 refine ov hr (.slice none 0 0) (by kernel_rfl) ?_; clear hr a; intro a hr
 refine ln ?_
 refine wp_seq ?_
 refine sr ?_
 refine ovs [4, 5] [pN, vB true] hr ⟨rfl, rfl⟩ (by kernel_rfl) ?_; clear hr a; intro a hr
 refine ln ?_
 refine cond_tt hr (b := true) rfl ?_
 refine sr ?_
 refine ov hr (.slice none 0 0) (by kernel_rfl) ?_; clear hr a; intro a hr
 refine ln ?_
 refine wp_ret ?_
 refine then_ret ?_
 refine end_ret1 (v := .slice none 0 0) rfl hr (by kernel_rfl) ?_
 replace h : Fit z (sepL (rowOf 2 1 encZ_i64 (.slice none 0 0) ([] : List Int) :: L)) _ := h.row_nil
 replace H := ej1 H; subst H
 exact ⟨none, rfl, h⟩

/-- (*plunder/cells.Arena).Log -/
def cells_Arena_Log_nil : Option ((List T_api_Access)) :=
  some ([] : List T_api_Access)
set_option maxRecDepth 100000 in
set_option maxHeartbeats 4000000 in
theorem cells_Arena_Log_nil_ok {z w : World} {L : List HProp}  {r0 : List T_api_Access} (H : cells_Arena_Log_nil = some r0) (h : Fit z (sepL (L)) w)  :
    Calls Try.prog 70 #[pN] w fun e w => ∃ car0_1 : Option Addr, e = .returned (.slice car0_1 r0.length r0.length) ∧ Fit z (sepL (ro90 car0_1 r0.length r0 :: L)) w := by
 unfold cells_Arena_Log_nil at H
 refine enter Try.func70 rfl 19 rfl rfl [(0, pN)] ⟨rfl, trivial⟩ ?_
 intro j a hr
 refine sr ?_
 refine ov hr (.slice none 0 0) (by kernel_rfl) ?_; clear hr a; intro a hr
 refine ln ?_
 refine wp_seq ?_
 refine sr ?_
 refine ovs [4, 5] [pN, vB true] hr ⟨rfl, rfl⟩ (by kernel_rfl) ?_; clear hr a; intro a hr
 refine ln ?_
 refine cond_tt hr (b := true) rfl ?_
 refine sr ?_
 refine ov hr (.slice none 0 0) (by kernel_rfl) ?_; clear hr a; intro a hr
 refine ln ?_
 refine wp_ret ?_
 refine then_ret ?_
 refine end_ret1 (v := .slice none 0 0) rfl hr (by kernel_rfl) ?_
 replace h : Fit z (sepL (rowOf 90 6 enc_T_api_Access (.slice none 0 0) ([] : List T_api_Access) :: L)) _ := h.row_nil
 replace H := ej1 H; subst H
 exact ⟨none, rfl, h⟩

def cells_Play_l1 (K : Nat) (p1 : List T_api_Act) : Nat → T_cells_Arena → (List T_api_Effect) → Int → Option (T_cells_Arena × (List T_api_Effect))
  | 0, _, _, _ => none
  | k1 + 1, S30, l37, g38 => (if g38 < ((p1.length : Nat) : Int) then if inr_ g38 p1.length then ob2 (cells_Arena_act S30 (at_ p1 g38.toNat)) (fun r42 S43 => if (l37.length + 1) * 24 ≤ 140737488355328 then (cells_Play_l1 K p1 k1 S43 (l37 ++ [r42]) (wi (g38 + (1 : Int)))) else none) else none else some (S30, l37))
def cells_Play_l2 (K : Nat) (p1 : List T_api_Act) : Nat → (List T_api_Effect) → Int → Option ((List T_api_Effect))
  | 0, _, _ => none
  | k2 + 1, l70, g71 => (if g71 < ((p1.length : Nat) : Int) then if inr_ g71 p1.length then ob1 (cells_Arena_act_nil (at_ p1 g71.toNat)) (fun r75 => if (l70.length + 1) * 24 ≤ 140737488355328 then (cells_Play_l2 K p1 k2 (l70 ++ [r75]) (wi (g71 + (1 : Int)))) else none) else none else some l70)
/-- plunder/cells.Play -/
def cells_Play (K : Nat) (p0 : Int) (p1 : List T_api_Act) : Option (T_api_CellRun × Int) :=
  ob2 (cells_New p0) (fun r2 r3 => (match r2 with | some S5 => (if r3 = (0 : Int) then (if ((p1.length : Nat) : Int) > (4096 : Int) then some ((⟨([] : List T_api_Effect), ([] : List Int), ([] : List T_api_Access)⟩ : T_api_CellRun), 2) else ob1 (cells_Arena_Watch S5 true) (fun S13 => ob2 ((cells_Play_l1 K p1 K S13 ([] : List T_api_Effect) 0)) (fun S20 l27 => ob1 (cells_Arena_Cells S20) (fun r53 => ob1 (cells_Arena_Log S20) (fun r56 => some ((⟨l27, r53, r56⟩ : T_api_CellRun), 0)))))) else some ((⟨([] : List T_api_Effect), ([] : List Int), ([] : List T_api_Access)⟩ : T_api_CellRun), r3)) | none => (if r3 = (0 : Int) then (if ((p1.length : Nat) : Int) > (4096 : Int) then some ((⟨([] : List T_api_Effect), ([] : List Int), ([] : List T_api_Access)⟩ : T_api_CellRun), 2) else ob0 (cells_Arena_Watch_nil true) (ob1 ((cells_Play_l2 K p1 K ([] : List T_api_Effect) 0)) (fun l65 => ob1 (cells_Arena_Cells_nil) (fun r81 => ob1 (cells_Arena_Log_nil) (fun r84 => some ((⟨l65, r81, r84⟩ : T_api_CellRun), 0)))))) else some ((⟨([] : List T_api_Effect), ([] : List Int), ([] : List T_api_Access)⟩ : T_api_CellRun), r3))))
set_option maxRecDepth 100000 in
set_option maxHeartbeats 4000000 in
theorem cells_Play_ok {z w : World} {L : List HProp} {K : Nat} {p0 : Int} {p1 : List T_api_Act} {va1 : Option Addr} {vc1 : Nat} {r0 : T_api_CellRun} {r1 : Int} (H : cells_Play K p0 p1 = some (r0, r1)) (h : Fit z (sepL (L)) w) (hv1 : RdRow L 5 enc_T_api_Act va1 p1) :
    Calls Try.prog 38 #[vI p0, .slice va1 p1.length vc1] w fun e w => ∃ car0_1 : Option Addr, ∃ ccr0_2 : Nat, ∃ car0_3 : Option Addr, ∃ car0_5 : Option Addr, e = .returned (.tuple #[.agg #[.slice car0_1 r0.Effects.length ccr0_2, .slice car0_3 r0.Cells.length r0.Cells.length, .slice car0_5 r0.Log.length r0.Log.length], vI r1]) ∧ Fit z (sepL (ro39 car0_1 ccr0_2 r0.Effects :: ro2 car0_3 r0.Cells.length r0.Cells :: ro90 car0_5 r0.Log.length r0.Log :: L)) w := by
 unfold cells_Play at H
 refine enter Try.func38 rfl 48 rfl rfl [(0, vI p0), (1, .slice va1 p1.length vc1)] ⟨rfl, rfl, trivial⟩ ?_
 intro j a hr
 refine sr ?_
 refine op_new (wn rfl) rfl rfl hr h (vf := fun b => .pointer (some ⟨b, 0, none⟩)) (cs := #[.slice none 0 0, .slice none 0 0, .slice none 0 0]) (T := 70) (by kernel_rfl) ?_; clear h hr a; intro b1 w a h hr
 refine ov hr (vI 0) (by kernel_rfl) ?_; clear hr a; intro a hr
 refine ln ?_
 refine sr ?_
 replace H := bd2 H; obtain ⟨r2, r3, e4, H⟩ := H
 refine ov hr (vI p0) (by kernel_rfl) ?_; clear hr a; intro a hr
 cases r2 with
 | some S5 =>
  have hc := cells_New_ok0 (H := e4) (h := h)
  refine op_call (wn rfl) rfl rfl hr (f := 19) (args := #[vI p0]) (by kernel_rfl) hc ?_; clear hc h
  rintro _ w ⟨Bn6, car7, ccr8, car9, ccr10, rfl, h⟩; refine ⟨_, rfl, ?_⟩
  clear hr a; intro a hr
  refine ovs [11, 14, 15, 6, 7] [.tuple #[pA Bn6 0, vI r3], pA Bn6 0, vI r3, pA Bn6 0, vI r3] hr ⟨rfl, rfl⟩ (by kernel_rfl) ?_; clear hr a; intro a hr
  refine ln ?_
  refine wp_seq ?_
  refine sr ?_
  refine ovs [16, 17] [vI r3, vB (r3 != (0 : Int))] hr ⟨rfl, rfl⟩ (by kernel_rfl) ?_; clear hr a; intro a hr
  refine ln ?_
  by_cases c11 : r3 = (0 : Int)
  ·
   replace H := ifT c11 H
   refine cond_ff hr (b := (r3 != (0 : Int))) (bne_eq_false_iff_eq.mpr c11) ?_
   refine wp_skip ?_
   refine then_normal ?_
   refine wp_seq ?_
   refine sr ?_
   refine ovs [20, 21, 22] [.slice va1 p1.length vc1, vI ((p1.length : Nat) : Int), vB (decide (((p1.length : Nat) : Int) > (4096 : Int)))] hr ⟨rfl, rfl⟩ (by kernel_rfl) ?_; clear hr a; intro a hr
   refine ln ?_
   by_cases c12 : ((p1.length : Nat) : Int) > (4096 : Int)
   ·
    replace H := ifT c12 H
    refine cond_tt hr (b := (decide (((p1.length : Nat) : Int) > (4096 : Int)))) (decide_eq_true c12) ?_
    refine sr ?_
    refine ov hr (.agg #[.slice none 0 0, .slice none 0 0, .slice none 0 0]) (by kernel_rfl) ?_; clear hr a; intro a hr
    replace h : Fit z (sepL (pts b1 (.cells #[.slice none 0 0, .slice none 0 0, .slice none 0 0] 70) :: ob96 Bn6 S5 car7 ccr8 car9 ccr10 :: ro2 car7 ccr8 S5.cell :: ro90 car9 ccr10 S5.log :: L)) _ := h.sel 4 [3, 0, 1, 2] (by kernel_rfl) (by kernel_rfl)
    refine op_stores (wn rfl) rfl hr rfl (by kernel_rfl) (by kernel_rfl) (vs := [.slice none 0 0, .slice none 0 0, .slice none 0 0]) rfl rfl (by kernel_rfl) h (i := 0) (cs' := #[.slice none 0 0, .slice none 0 0, .slice none 0 0]) rfl ?_; clear h; intro w h
    refine ov hr (vI 2) (by kernel_rfl) ?_; clear hr a; intro a hr
    refine wpList_nil ?_
    replace h : Fit z (sepL (pts b1 (.cells #[.slice none 0 0, .slice none 0 0, .slice none 0 0] 70) :: ob96 Bn6 S5 car7 ccr8 car9 ccr10 :: ro2 car7 ccr8 S5.cell :: ro90 car9 ccr10 S5.log :: L)) _ := h
    refine then_normal ?_
    refine wp_ret ?_
    refine then_ret ?_
    refine end_retCT (cs := [.slice none 0 0, .slice none 0 0, .slice none 0 0]) (v := vI 2) rfl hr (by kernel_rfl) (by kernel_rfl) (by kernel_rfl) (by kernel_rfl) (h.held 0 rfl) ?_
    replace h : Fit z (sepL (rowOf 39 3 enc_T_api_Effect (.slice none 0 0) ([] : List T_api_Effect) :: pts b1 (.cells #[.slice none 0 0, .slice none 0 0, .slice none 0 0] 70) :: ob96 Bn6 S5 car7 ccr8 car9 ccr10 :: ro2 car7 ccr8 S5.cell :: ro90 car9 ccr10 S5.log :: L)) _ := h.row_nil
    replace h : Fit z (sepL (rowOf 2 1 encZ_i64 (.slice none 0 0) ([] : List Int) :: rowOf 39 3 enc_T_api_Effect (.slice none 0 0) ([] : List T_api_Effect) :: pts b1 (.cells #[.slice none 0 0, .slice none 0 0, .slice none 0 0] 70) :: ob96 Bn6 S5 car7 ccr8 car9 ccr10 :: ro2 car7 ccr8 S5.cell :: ro90 car9 ccr10 S5.log :: L)) _ := h.row_nil
    replace h : Fit z (sepL (rowOf 90 6 enc_T_api_Access (.slice none 0 0) ([] : List T_api_Access) :: rowOf 2 1 encZ_i64 (.slice none 0 0) ([] : List Int) :: rowOf 39 3 enc_T_api_Effect (.slice none 0 0) ([] : List T_api_Effect) :: pts b1 (.cells #[.slice none 0 0, .slice none 0 0, .slice none 0 0] 70) :: ob96 Bn6 S5 car7 ccr8 car9 ccr10 :: ro2 car7 ccr8 S5.cell :: ro90 car9 ccr10 S5.log :: L)) _ := h.row_nil
    replace h : Fit z (sepL (rowOf 39 3 enc_T_api_Effect (.slice none 0 0) ([] : List T_api_Effect) :: rowOf 2 1 encZ_i64 (.slice none 0 0) ([] : List Int) :: rowOf 90 6 enc_T_api_Access (.slice none 0 0) ([] : List T_api_Access) :: L)) _ := h.sel 7 [2, 1, 0] (by kernel_rfl) (by kernel_rfl)
    replace H := ej2 H; obtain ⟨rfl, rfl⟩ := H
    exact ⟨none, 0, none, none, rfl, h⟩
   ·
    replace H := ifF c12 H
    refine cond_ff hr (b := (decide (((p1.length : Nat) : Int) > (4096 : Int)))) (decide_eq_false c12) ?_
    refine wp_skip ?_
    refine then_normal ?_
    refine sr ?_
    replace H := bd1 H; obtain ⟨S13, e14, H⟩ := H
    refine ov hr (pA Bn6 0) (by kernel_rfl) ?_; clear hr a; intro a hr
    have hc := cells_Arena_Watch_ok (H := e14) (h := h)
    refine op_call (wn rfl) rfl rfl hr (f := 88) (args := #[pA Bn6 0, vB true]) (by kernel_rfl) hc ?_; clear hc h
    rintro _ w ⟨caq15, ccq16, caq17, ccq18, rfl, h⟩; refine ⟨_, rfl, ?_⟩
    clear hr a; intro a hr
    refine ln ?_
    refine sr ?_
    refine op_new (wn rfl) rfl rfl hr h (vf := fun b => .pointer (some ⟨b, 0, none⟩)) (cs := #[.slice none 0 0, .slice none 0 0, .slice none 0 0]) (T := 70) (by kernel_rfl) ?_; clear h hr a; intro b19 w a h hr
    refine ln ?_
    replace H := kd2 H; obtain ⟨o29, H, hK28⟩ := H
    refine cut_rule (β := Unit) (fun _ a w => ∃ ca21 : Option Addr, ∃ cc22 : Nat, ∃ ca23 : Option Addr, ∃ cc24 : Nat, ∃ ca25 : Option Addr, ∃ cc26 : Nat, ∃ S20 : T_cells_Arena, ∃ l27 : List T_api_Effect, (S20, l27) = o29 ∧ ∃ j, Rep 48 (lk [(4, pA b1 0), (6, pA Bn6 0), (8, pA b19 0)] j) a ∧ Fit z (sepL (pts b1 (.cells #[.slice none 0 0, .slice none 0 0, .slice none 0 0] 70) :: ob96 Bn6 S20 ca21 cc22 ca23 cc24 :: ro2 ca21 cc22 S20.cell :: ro90 ca23 cc24 S20.log :: pts b19 (.cells #[.slice ca25 l27.length cc26, .slice none 0 0, .slice none 0 0] 70) :: ro39 ca25 cc26 l27 :: L)) w) ?_ ?_
    ·
     refine sr ?_
     refine ovs [26, 27, 28] [.slice va1 p1.length vc1, vI ((p1.length : Nat) : Int), vI 0] hr ⟨rfl, rfl⟩ (by kernel_rfl) ?_; clear hr a; intro a hr
     refine ln ?_
     refine wp_block ?_
     replace hr := hr.fold2 [(4, pA b1 0), (6, pA Bn6 0), (8, pA b19 0), (26, .slice va1 p1.length vc1), (27, vI ((p1.length : Nat) : Int)), (28, vI 0)] (by kernel_rfl); obtain ⟨j, hr⟩ := hr
     replace h : Fit z (sepL (rowOf 39 3 enc_T_api_Effect (.slice none 0 0) ([] : List T_api_Effect) :: pts b19 (.cells #[.slice none 0 0, .slice none 0 0, .slice none 0 0] 70) :: ob96 Bn6 S13 caq15 ccq16 caq17 ccq18 :: ro2 caq15 ccq16 S13.cell :: ro90 caq17 ccq18 S13.log :: pts b1 (.cells #[.slice none 0 0, .slice none 0 0, .slice none 0 0] 70) :: L)) _ := h.row_nil
     replace h : Fit z (sepL (pts b1 (.cells #[.slice none 0 0, .slice none 0 0, .slice none 0 0] 70) :: ob96 Bn6 S13 caq15 ccq16 caq17 ccq18 :: ro2 caq15 ccq16 S13.cell :: ro90 caq17 ccq18 S13.log :: pts b19 (.cells #[.slice none (([] : List T_api_Effect).length) 0, .slice none 0 0, .slice none 0 0] 70) :: rowOf 39 3 enc_T_api_Effect (.slice none (([] : List T_api_Effect).length) 0) ([] : List T_api_Effect) :: L)) _ := h.sel 6 [5, 2, 3, 4, 1, 0] (by kernel_rfl) (by kernel_rfl)
     refine loop_rule (β := Nat) id (fun m a w => ∃ ca31 : Option Addr, ∃ cc32 : Nat, ∃ ca33 : Option Addr, ∃ cc34 : Nat, ∃ ca35 : Option Addr, ∃ cc36 : Nat, ∃ S30 : T_cells_Arena, ∃ l37 : List T_api_Effect, ∃ g38 : Int, (cells_Play_l1 K p1 m S30 l37 g38) = some o29 ∧ ∃ j, Rep 48 (lk [(4, pA b1 0), (6, pA Bn6 0), (8, pA b19 0), (26, .slice va1 p1.length vc1), (27, vI ((p1.length : Nat) : Int)), (28, vI g38)] j) a ∧ Fit z (sepL (pts b1 (.cells #[.slice none 0 0, .slice none 0 0, .slice none 0 0] 70) :: ob96 Bn6 S30 ca31 cc32 ca33 cc34 :: ro2 ca31 cc32 S30.cell :: ro90 ca33 cc34 S30.log :: pts b19 (.cells #[.slice ca35 l37.length cc36, .slice none 0 0, .slice none 0 0] 70) :: ro39 ca35 cc36 l37 :: L)) w) K ⟨caq15, ccq16, caq17, ccq18, none, 0, S13, ([] : List T_api_Effect), 0, H, j, hr, h⟩ ?_
     clear h hr a H; rintro k1 a w ⟨ca31, cc32, ca33, cc34, ca35, cc36, S30, l37, g38, H, j, hr, h⟩
     cases k1 with
     | zero => exact absurd H (by simp [cells_Play_l1])
     | succ k1 =>
      rw [cells_Play_l1] at H
      refine sr ?_
      refine ov hr (vB (decide (g38 < ((p1.length : Nat) : Int)))) (by kernel_rfl) ?_; clear hr a; intro a hr
      refine ln ?_
      refine wp_seq ?_
      by_cases c39 : g38 < ((p1.length : Nat) : Int)
      ·
       replace H := ifT c39 H
       refine cond_tt hr (b := (decide (g38 < ((p1.length : Nat) : Int)))) (decide_eq_true c39) ?_
       refine wp_skip ?_
       refine then_normal ?_
       refine wp_seq ?_
       refine wp_block ?_
       refine sr ?_
       replace H := gd H; obtain ⟨c40, H⟩ := H
       refine opv (wn rfl) hr (pA (blk va1) (offs va1 + g38.toNat * 5)) (ri_rd (k := .i64) (E := 57) (cc := vc1) rfl (by kernel_rfl) (by kernel_rfl) rfl (by kernel_rfl) (by kernel_rfl) hv1 c40) ?_; clear hr a; intro a hr
       refine ldm (wn rfl) hr (ag_T_api_Act (at_ p1 g38.toNat)) (cs := cl_T_api_Act (at_ p1 g38.toNat)) ⟨hv1.cell c40 (h.dn 6) 0 rfl, hv1.cell c40 (h.dn 6) 1 rfl, hv1.cell c40 (h.dn 6) 2 rfl, hv1.cell c40 (h.dn 6) 3 rfl, hv1.cell c40 (h.dn 6) 4 rfl, trivial⟩ ?_; clear hr a; intro a hr
       refine op_new (wn rfl) rfl rfl hr h (vf := fun b => .pointer (some ⟨b, 0, none⟩)) (cs := #[vI 0, vI 0, vI 0, vI 0, vI 0]) (T := 57) (by kernel_rfl) ?_; clear h hr a; intro b41 w a h hr
       refine op_stores (wn rfl) rfl hr rfl (by kernel_rfl) (by kernel_rfl) (vs := cl_T_api_Act (at_ p1 g38.toNat)) rfl rfl (by kernel_rfl) h (i := 0) (cs' := ca_T_api_Act (at_ p1 g38.toNat)) rfl ?_; clear h; intro w h
       refine wpList_nil ?_
       replace h : Fit z (sepL (ob57 b41 (at_ p1 g38.toNat) :: pts b1 (.cells #[.slice none 0 0, .slice none 0 0, .slice none 0 0] 70) :: ob96 Bn6 S30 ca31 cc32 ca33 cc34 :: ro2 ca31 cc32 S30.cell :: ro90 ca33 cc34 S30.log :: pts b19 (.cells #[.slice ca35 l37.length cc36, .slice none 0 0, .slice none 0 0] 70) :: ro39 ca35 cc36 l37 :: L)) _ := h
       refine then_normal ?_
       replace H := bd2 H; obtain ⟨r42, S43, e44, H⟩ := H
       replace H := gd H; obtain ⟨c52, H⟩ := H
       refine reg_E (fun w => heldC w b19 0 ([.slice ca35 l37.length cc36]) ∧ heldC w b41 0 (cl_T_api_Act (at_ p1 g38.toNat)) ∧ True) [0, 4] h (by kernel_rfl) ?_; intro w h
       change wpAnyE _ _ _ _ _ _ 9 (Array.replicate 9 false) a w
       have hgo : ∀ w w', CellsGo w w' → (heldC w b19 0 ([.slice ca35 l37.length cc36]) ∧ heldC w b41 0 (cl_T_api_Act (at_ p1 g38.toNat)) ∧ True) → heldC w' b19 0 ([.slice ca35 l37.length cc36]) ∧ heldC w' b41 0 (cl_T_api_Act (at_ p1 g38.toNat)) ∧ True := fun w w' g hD => ⟨heldC_go _ _ _ _ _ g hD.1, heldC_go _ _ _ _ _ g hD.2.1, trivial⟩
       refine evD hgo ⟨⟨(h.pick 5).cell 0 rfl, trivial⟩, (h.held 0 rfl), trivial⟩ 8 0 rfl (by kernel_rfl) (wn rfl) hr (pA b19 0) (fun w => by kernel_rfl) ?_; clear hr a; intro a hr
       refine ev 7 2 rfl (by kernel_rfl) (wn rfl) hr (pA Bn6 0) (fun w => by kernel_rfl) ?_; clear hr a; intro a hr
       refine el [0, 4] (b := b19) (off := 0) (cs := [.slice ca35 l37.length cc36]) (fun _ hk => ⟨hk, fun w hD => hD.1⟩) 6 1 rfl (by kernel_rfl) (wn rfl) hr (.slice ca35 l37.length cc36) ⟨(h.pick 5).cell 0 rfl, trivial⟩ (fun w hc => rl rfl (by kernel_rfl) (by kernel_rfl) hc.1) ?_; clear hr a; intro a hr
       refine el [0, 4] (b := b41) (off := 0) (cs := cl_T_api_Act (at_ p1 g38.toNat)) (fun _ hk => ⟨hk, fun w hD => hD.2.1⟩) 5 3 rfl (by kernel_rfl) (wn rfl) hr (ag_T_api_Act (at_ p1 g38.toNat)) (h.held 0 rfl) (fun w hc => rlm (cs := cl_T_api_Act (at_ p1 g38.toNat)) rfl (by kernel_rfl) (by kernel_rfl) (by kernel_rfl) hc) ?_; clear hr a; intro a hr
       refine e_one (fuel := 4) (i := 4) (by kernel_rfl) rfl ?_
       replace h : Fit z (sepL (ob96 Bn6 S30 ca31 cc32 ca33 cc34 :: ro2 ca31 cc32 S30.cell :: ro90 ca33 cc34 S30.log :: ob57 b41 (at_ p1 g38.toNat) :: pts b1 (.cells #[.slice none 0 0, .slice none 0 0, .slice none 0 0] 70) :: pts b19 (.cells #[.slice ca35 l37.length cc36, .slice none 0 0, .slice none 0 0] 70) :: ro39 ca35 cc36 l37 :: L)) _ := h.sel 7 [2, 3, 4, 0, 1, 5, 6] (by kernel_rfl) (by kernel_rfl)
       have hc := cells_Arena_act_ok (H := e44) (h := h)
       refine op_call (wn rfl) rfl rfl hr (f := 89) (args := #[pA Bn6 0, ag_T_api_Act (at_ p1 g38.toNat)]) (by kernel_rfl) hc ?_; clear hc h
       rintro _ w ⟨caq45, ccq46, caq47, ccq48, rfl, h⟩; refine ⟨_, rfl, ?_⟩
       clear hr a; intro a hr
       refine wpList_nil ?_; refine then_normal ?_
       refine ⟨fun _ => ⟨⟨(h.pick 5).cell 0 rfl, trivial⟩, ((h.pick 3).held 0 rfl), trivial⟩, ?_⟩
       refine e_one (fuel := 3) (i := 5) (by kernel_rfl) rfl ?_
       refine op_new (wn rfl) rfl rfl hr h (vf := fun b => .slice (some ⟨b, 0, none⟩) 1 1) (cs := ca_T_api_Effect r42) (T := 39) (by kernel_rfl) ?_; clear h hr a; intro b49 w a h hr
       refine wpList_nil ?_; refine then_normal ?_
       refine ⟨fun hE => absurd hE (by decide), ?_⟩
       refine e_one (fuel := 2) (i := 6) (by kernel_rfl) rfl ?_
       replace h : Fit z (sepL (ro39 ca35 cc36 l37 :: ob39 b49 r42 :: ob96 Bn6 S43 caq45 ccq46 caq47 ccq48 :: ro2 caq45 ccq46 S43.cell :: ro90 caq47 ccq48 S43.log :: ob57 b41 (at_ p1 g38.toNat) :: pts b1 (.cells #[.slice none 0 0, .slice none 0 0, .slice none 0 0] 70) :: pts b19 (.cells #[.slice ca35 l37.length cc36, .slice none 0 0, .slice none 0 0] 70) :: L)) _ := h.sel 8 [7, 0, 1, 2, 3, 4, 5, 6] (by kernel_rfl) (by kernel_rfl)
       refine op_append (n0 := l37.length) (c := 1) (bytes := 24) (wn rfl) rfl rfl hr rfl (by kernel_rfl) (by kernel_rfl) enc_T_api_Effect_ok (E := 39) (xs := l37) (by kernel_rfl) (by kernel_rfl) h (news := [r42]) (m := 1) rfl ((h.pick 1).news rfl) c52 rfl ?_; clear h hr a; intro ca50 cc51 w a h hr
       refine wpList_nil ?_; refine then_normal ?_
       replace h : Fit z (sepL (ro39 ca50 cc51 (l37 ++ [r42]) :: ob39 b49 r42 :: ob96 Bn6 S43 caq45 ccq46 caq47 ccq48 :: ro2 caq45 ccq46 S43.cell :: ro90 caq47 ccq48 S43.log :: ob57 b41 (at_ p1 g38.toNat) :: pts b1 (.cells #[.slice none 0 0, .slice none 0 0, .slice none 0 0] 70) :: pts b19 (.cells #[.slice ca35 l37.length cc36, .slice none 0 0, .slice none 0 0] 70) :: L)) _ := h
       refine ⟨fun hE => absurd hE (by decide), ?_⟩
       refine ev 1 7 rfl (by kernel_rfl) (wn rfl) hr (pA b19 0) (fun w => by kernel_rfl) ?_; clear hr a; intro a hr
       refine e_one (fuel := 0) (i := 8) (by kernel_rfl) rfl ?_
       replace h : Fit z (sepL (pts b19 (.cells #[.slice ca35 l37.length cc36, .slice none 0 0, .slice none 0 0] 70) :: ro39 ca50 cc51 (l37 ++ [r42]) :: ob39 b49 r42 :: ob96 Bn6 S43 caq45 ccq46 caq47 ccq48 :: ro2 caq45 ccq46 S43.cell :: ro90 caq47 ccq48 S43.log :: ob57 b41 (at_ p1 g38.toNat) :: pts b1 (.cells #[.slice none 0 0, .slice none 0 0, .slice none 0 0] 70) :: L)) _ := h.sel 8 [7, 0, 1, 2, 3, 4, 5, 6] (by kernel_rfl) (by kernel_rfl)
       refine op_store (wn rfl) rfl hr rfl (by kernel_rfl) (by kernel_rfl) (v := .slice ca50 ((l37 ++ [r42]).length) cc51) rfl rfl (by kernel_rfl) h (i := 0) rfl ?_; clear h; intro w h
       refine wpList_nil ?_; refine then_normal ?_
       replace h : Fit z (sepL (pts b19 (.cells #[.slice ca50 ((l37 ++ [r42]).length) cc51, .slice none 0 0, .slice none 0 0] 70) :: ro39 ca50 cc51 (l37 ++ [r42]) :: ob39 b49 r42 :: ob96 Bn6 S43 caq45 ccq46 caq47 ccq48 :: ro2 caq45 ccq46 S43.cell :: ro90 caq47 ccq48 S43.log :: ob57 b41 (at_ p1 g38.toNat) :: pts b1 (.cells #[.slice none 0 0, .slice none 0 0, .slice none 0 0] 70) :: L)) _ := h
       refine ⟨fun hE => absurd hE (by decide), ?_⟩
       refine e_end (by kernel_rfl) ?_
       refine blk_normal ?_
       refine then_normal ?_
       refine wp_region_lit ?_
       refine ovs [40, 28] [vI (wi (g38 + (1 : Int))), vI (wi (g38 + (1 : Int)))] hr ⟨rfl, rfl⟩ (by kernel_rfl) ?_; clear hr a; intro a hr
       refine ln ?_
       replace hr := hr.fold2 [(4, pA b1 0), (6, pA Bn6 0), (8, pA b19 0), (26, .slice va1 p1.length vc1), (27, vI ((p1.length : Nat) : Int)), (28, vI (wi (g38 + (1 : Int))))] (by kernel_rfl); obtain ⟨j, hr⟩ := hr
       replace h : Fit z (sepL (pts b1 (.cells #[.slice none 0 0, .slice none 0 0, .slice none 0 0] 70) :: ob96 Bn6 S43 caq45 ccq46 caq47 ccq48 :: ro2 caq45 ccq46 S43.cell :: ro90 caq47 ccq48 S43.log :: pts b19 (.cells #[.slice ca50 ((l37 ++ [r42]).length) cc51, .slice none 0 0, .slice none 0 0] 70) :: ro39 ca50 cc51 (l37 ++ [r42]) :: L)) _ := h.sel 8 [7, 3, 4, 5, 0, 1] (by kernel_rfl) (by kernel_rfl)
       exact ⟨_, ⟨caq45, ccq46, caq47, ccq48, ca50, cc51, S43, (l37 ++ [r42]), (wi (g38 + (1 : Int))), H, j, hr, h⟩, Nat.lt_succ_self _⟩
      ·
       replace H := ifF c39 H
       refine cond_ff hr (b := (decide (g38 < ((p1.length : Nat) : Int)))) (decide_eq_false c39) ?_
       refine wp_exit ?_
       refine then_exit ?_
       refine then_exit ?_
       refine blk_here ?_
       refine then_normal ?_
       replace hr := hr.fold2 [(4, pA b1 0), (6, pA Bn6 0), (8, pA b19 0)] (by kernel_rfl); obtain ⟨j, hr⟩ := hr
       exact ⟨(), ca31, cc32, ca33, cc34, ca35, cc36, S30, l37, sinj H, j, hr, h⟩
    clear h hr a; rintro _ a w ⟨ca21, cc22, ca23, cc24, ca25, cc26, S20, l27, rfl, j, hr, h⟩
    replace H := kk2 hK28
    refine sr ?_
    replace H := bd1 H; obtain ⟨r53, e54, H⟩ := H
    refine ov hr (pA Bn6 0) (by kernel_rfl) ?_; clear hr a; intro a hr
    replace h : Fit z (sepL (ob96 Bn6 S20 ca21 cc22 ca23 cc24 :: ro2 ca21 cc22 S20.cell :: ro90 ca23 cc24 S20.log :: pts b1 (.cells #[.slice none 0 0, .slice none 0 0, .slice none 0 0] 70) :: pts b19 (.cells #[.slice ca25 l27.length cc26, .slice none 0 0, .slice none 0 0] 70) :: ro39 ca25 cc26 l27 :: L)) _ := h.sel 6 [1, 2, 3, 0, 4, 5] (by kernel_rfl) (by kernel_rfl)
    have hc := cells_Arena_Cells_ok (H := e54) (h := h)
    refine op_call (wn rfl) rfl rfl hr (f := 24) (args := #[pA Bn6 0]) (by kernel_rfl) hc ?_; clear hc h
    rintro _ w ⟨car55, rfl, h⟩; refine ⟨_, rfl, ?_⟩
    clear hr a; intro a hr
    refine ov hr (pA b19 1) (by kernel_rfl) ?_; clear hr a; intro a hr
    replace h : Fit z (sepL (pts b19 (.cells #[.slice ca25 l27.length cc26, .slice none 0 0, .slice none 0 0] 70) :: ob96 Bn6 S20 ca21 cc22 ca23 cc24 :: ro2 ca21 cc22 S20.cell :: ro90 ca23 cc24 S20.log :: ro2 car55 r53.length r53 :: pts b1 (.cells #[.slice none 0 0, .slice none 0 0, .slice none 0 0] 70) :: ro39 ca25 cc26 l27 :: L)) _ := h.sel 7 [5, 0, 1, 2, 3, 4, 6] (by kernel_rfl) (by kernel_rfl)
    refine op_store (wn rfl) rfl hr rfl (by kernel_rfl) (by kernel_rfl) (v := .slice car55 r53.length r53.length) rfl rfl (by kernel_rfl) h (i := 1) rfl ?_; clear h; intro w h
    refine wpList_nil ?_
    replace h : Fit z (sepL (pts b19 (.cells #[.slice ca25 l27.length cc26, .slice car55 r53.length r53.length, .slice none 0 0] 70) :: ob96 Bn6 S20 ca21 cc22 ca23 cc24 :: ro2 ca21 cc22 S20.cell :: ro90 ca23 cc24 S20.log :: ro2 car55 r53.length r53 :: pts b1 (.cells #[.slice none 0 0, .slice none 0 0, .slice none 0 0] 70) :: ro39 ca25 cc26 l27 :: L)) _ := h
    refine then_normal ?_
    refine sr ?_
    replace H := bd1 H; obtain ⟨r56, e57, H⟩ := H
    refine ov hr (pA Bn6 0) (by kernel_rfl) ?_; clear hr a; intro a hr
    replace h : Fit z (sepL (ob96 Bn6 S20 ca21 cc22 ca23 cc24 :: ro2 ca21 cc22 S20.cell :: ro90 ca23 cc24 S20.log :: pts b19 (.cells #[.slice ca25 l27.length cc26, .slice car55 r53.length r53.length, .slice none 0 0] 70) :: ro2 car55 r53.length r53 :: pts b1 (.cells #[.slice none 0 0, .slice none 0 0, .slice none 0 0] 70) :: ro39 ca25 cc26 l27 :: L)) _ := h.sel 7 [1, 2, 3, 0, 4, 5, 6] (by kernel_rfl) (by kernel_rfl)
    have hc := cells_Arena_Log_ok (H := e57) (h := h)
    refine op_call (wn rfl) rfl rfl hr (f := 70) (args := #[pA Bn6 0]) (by kernel_rfl) hc ?_; clear hc h
    rintro _ w ⟨car58, rfl, h⟩; refine ⟨_, rfl, ?_⟩
    clear hr a; intro a hr
    refine ov hr (pA b19 2) (by kernel_rfl) ?_; clear hr a; intro a hr
    replace h : Fit z (sepL (pts b19 (.cells #[.slice ca25 l27.length cc26, .slice car55 r53.length r53.length, .slice none 0 0] 70) :: ob96 Bn6 S20 ca21 cc22 ca23 cc24 :: ro2 ca21 cc22 S20.cell :: ro90 ca23 cc24 S20.log :: ro90 car58 r56.length r56 :: ro2 car55 r53.length r53 :: pts b1 (.cells #[.slice none 0 0, .slice none 0 0, .slice none 0 0] 70) :: ro39 ca25 cc26 l27 :: L)) _ := h.sel 8 [4, 0, 1, 2, 3, 5, 6, 7] (by kernel_rfl) (by kernel_rfl)
    refine op_store (wn rfl) rfl hr rfl (by kernel_rfl) (by kernel_rfl) (v := .slice car58 r56.length r56.length) rfl rfl (by kernel_rfl) h (i := 2) rfl ?_; clear h; intro w h
    refine wpList_nil ?_
    replace h : Fit z (sepL (pts b19 (.cells #[.slice ca25 l27.length cc26, .slice car55 r53.length r53.length, .slice car58 r56.length r56.length] 70) :: ob96 Bn6 S20 ca21 cc22 ca23 cc24 :: ro2 ca21 cc22 S20.cell :: ro90 ca23 cc24 S20.log :: ro90 car58 r56.length r56 :: ro2 car55 r53.length r53 :: pts b1 (.cells #[.slice none 0 0, .slice none 0 0, .slice none 0 0] 70) :: ro39 ca25 cc26 l27 :: L)) _ := h
    refine then_normal ?_
    refine sr ?_
    refine ldm (wn rfl) hr (.agg #[.slice ca25 l27.length cc26, .slice car55 r53.length r53.length, .slice car58 r56.length r56.length]) (cs := [.slice ca25 l27.length cc26, .slice car55 r53.length r53.length, .slice car58 r56.length r56.length]) (h.held 0 rfl) ?_; clear hr a; intro a hr
    replace h : Fit z (sepL (pts b1 (.cells #[.slice none 0 0, .slice none 0 0, .slice none 0 0] 70) :: pts b19 (.cells #[.slice ca25 l27.length cc26, .slice car55 r53.length r53.length, .slice car58 r56.length r56.length] 70) :: ob96 Bn6 S20 ca21 cc22 ca23 cc24 :: ro2 ca21 cc22 S20.cell :: ro90 ca23 cc24 S20.log :: ro90 car58 r56.length r56 :: ro2 car55 r53.length r53 :: ro39 ca25 cc26 l27 :: L)) _ := h.sel 8 [6, 0, 1, 2, 3, 4, 5, 7] (by kernel_rfl) (by kernel_rfl)
    refine op_stores (wn rfl) rfl hr rfl (by kernel_rfl) (by kernel_rfl) (vs := [.slice ca25 l27.length cc26, .slice car55 r53.length r53.length, .slice car58 r56.length r56.length]) rfl rfl (by kernel_rfl) h (i := 0) (cs' := #[.slice ca25 l27.length cc26, .slice car55 r53.length r53.length, .slice car58 r56.length r56.length]) rfl ?_; clear h; intro w h
    refine ov hr (vI 0) (by kernel_rfl) ?_; clear hr a; intro a hr
    refine wpList_nil ?_
    replace h : Fit z (sepL (pts b1 (.cells #[.slice ca25 l27.length cc26, .slice car55 r53.length r53.length, .slice car58 r56.length r56.length] 70) :: pts b19 (.cells #[.slice ca25 l27.length cc26, .slice car55 r53.length r53.length, .slice car58 r56.length r56.length] 70) :: ob96 Bn6 S20 ca21 cc22 ca23 cc24 :: ro2 ca21 cc22 S20.cell :: ro90 ca23 cc24 S20.log :: ro90 car58 r56.length r56 :: ro2 car55 r53.length r53 :: ro39 ca25 cc26 l27 :: L)) _ := h
    refine then_normal ?_
    refine wp_ret ?_
    refine end_retCT (cs := [.slice ca25 l27.length cc26, .slice car55 r53.length r53.length, .slice car58 r56.length r56.length]) (v := vI 0) rfl hr (by kernel_rfl) (by kernel_rfl) (by kernel_rfl) (by kernel_rfl) (h.held 0 rfl) ?_
    replace h : Fit z (sepL (ro39 ca25 cc26 l27 :: ro2 car55 r53.length r53 :: ro90 car58 r56.length r56 :: L)) _ := h.sel 8 [7, 6, 5] (by kernel_rfl) (by kernel_rfl)
    replace H := ej2 H; obtain ⟨rfl, rfl⟩ := H
    exact ⟨ca25, cc26, car55, car58, rfl, h⟩
  ·
   replace H := ifF c11 H
   refine cond_tt hr (b := (r3 != (0 : Int))) (bne_iff_ne.mpr c11) ?_
   refine sr ?_
   refine ovs [18, 19] [.agg #[.slice none 0 0, .slice none 0 0, .slice none 0 0], vI r3] hr ⟨rfl, rfl⟩ (by kernel_rfl) ?_; clear hr a; intro a hr
   replace h : Fit z (sepL (pts b1 (.cells #[.slice none 0 0, .slice none 0 0, .slice none 0 0] 70) :: ob96 Bn6 S5 car7 ccr8 car9 ccr10 :: ro2 car7 ccr8 S5.cell :: ro90 car9 ccr10 S5.log :: L)) _ := h.sel 4 [3, 0, 1, 2] (by kernel_rfl) (by kernel_rfl)
   refine op_stores (wn rfl) rfl hr rfl (by kernel_rfl) (by kernel_rfl) (vs := [.slice none 0 0, .slice none 0 0, .slice none 0 0]) rfl rfl (by kernel_rfl) h (i := 0) (cs' := #[.slice none 0 0, .slice none 0 0, .slice none 0 0]) rfl ?_; clear h; intro w h
   refine ov hr (vI r3) (by kernel_rfl) ?_; clear hr a; intro a hr
   refine wpList_nil ?_
   replace h : Fit z (sepL (pts b1 (.cells #[.slice none 0 0, .slice none 0 0, .slice none 0 0] 70) :: ob96 Bn6 S5 car7 ccr8 car9 ccr10 :: ro2 car7 ccr8 S5.cell :: ro90 car9 ccr10 S5.log :: L)) _ := h
   refine then_normal ?_
   refine wp_ret ?_
   refine then_ret ?_
   refine end_retCT (cs := [.slice none 0 0, .slice none 0 0, .slice none 0 0]) (v := vI r3) rfl hr (by kernel_rfl) (by kernel_rfl) (by kernel_rfl) (by kernel_rfl) (h.held 0 rfl) ?_
   replace h : Fit z (sepL (rowOf 39 3 enc_T_api_Effect (.slice none 0 0) ([] : List T_api_Effect) :: pts b1 (.cells #[.slice none 0 0, .slice none 0 0, .slice none 0 0] 70) :: ob96 Bn6 S5 car7 ccr8 car9 ccr10 :: ro2 car7 ccr8 S5.cell :: ro90 car9 ccr10 S5.log :: L)) _ := h.row_nil
   replace h : Fit z (sepL (rowOf 2 1 encZ_i64 (.slice none 0 0) ([] : List Int) :: rowOf 39 3 enc_T_api_Effect (.slice none 0 0) ([] : List T_api_Effect) :: pts b1 (.cells #[.slice none 0 0, .slice none 0 0, .slice none 0 0] 70) :: ob96 Bn6 S5 car7 ccr8 car9 ccr10 :: ro2 car7 ccr8 S5.cell :: ro90 car9 ccr10 S5.log :: L)) _ := h.row_nil
   replace h : Fit z (sepL (rowOf 90 6 enc_T_api_Access (.slice none 0 0) ([] : List T_api_Access) :: rowOf 2 1 encZ_i64 (.slice none 0 0) ([] : List Int) :: rowOf 39 3 enc_T_api_Effect (.slice none 0 0) ([] : List T_api_Effect) :: pts b1 (.cells #[.slice none 0 0, .slice none 0 0, .slice none 0 0] 70) :: ob96 Bn6 S5 car7 ccr8 car9 ccr10 :: ro2 car7 ccr8 S5.cell :: ro90 car9 ccr10 S5.log :: L)) _ := h.row_nil
   replace h : Fit z (sepL (rowOf 39 3 enc_T_api_Effect (.slice none 0 0) ([] : List T_api_Effect) :: rowOf 2 1 encZ_i64 (.slice none 0 0) ([] : List Int) :: rowOf 90 6 enc_T_api_Access (.slice none 0 0) ([] : List T_api_Access) :: L)) _ := h.sel 7 [2, 1, 0] (by kernel_rfl) (by kernel_rfl)
   replace H := ej2 H; obtain ⟨rfl, rfl⟩ := H
   exact ⟨none, 0, none, none, rfl, h⟩
 | none =>
  have hc := cells_New_ok1 (H := e4) (h := h)
  refine op_call (wn rfl) rfl rfl hr (f := 19) (args := #[vI p0]) (by kernel_rfl) hc ?_; clear hc h
  rintro _ w ⟨rfl, h⟩; refine ⟨_, rfl, ?_⟩
  clear hr a; intro a hr
  refine ovs [11, 14, 15, 6, 7] [.tuple #[pN, vI r3], pN, vI r3, pN, vI r3] hr ⟨rfl, rfl⟩ (by kernel_rfl) ?_; clear hr a; intro a hr
  refine ln ?_
  refine wp_seq ?_
  refine sr ?_
  refine ovs [16, 17] [vI r3, vB (r3 != (0 : Int))] hr ⟨rfl, rfl⟩ (by kernel_rfl) ?_; clear hr a; intro a hr
  refine ln ?_
  by_cases c59 : r3 = (0 : Int)
  ·
   replace H := ifT c59 H
   refine cond_ff hr (b := (r3 != (0 : Int))) (bne_eq_false_iff_eq.mpr c59) ?_
   refine wp_skip ?_
   refine then_normal ?_
   refine wp_seq ?_
   refine sr ?_
   refine ovs [20, 21, 22] [.slice va1 p1.length vc1, vI ((p1.length : Nat) : Int), vB (decide (((p1.length : Nat) : Int) > (4096 : Int)))] hr ⟨rfl, rfl⟩ (by kernel_rfl) ?_; clear hr a; intro a hr
   refine ln ?_
   by_cases c60 : ((p1.length : Nat) : Int) > (4096 : Int)
   ·
    replace H := ifT c60 H
    refine cond_tt hr (b := (decide (((p1.length : Nat) : Int) > (4096 : Int)))) (decide_eq_true c60) ?_
    refine sr ?_
    refine ov hr (.agg #[.slice none 0 0, .slice none 0 0, .slice none 0 0]) (by kernel_rfl) ?_; clear hr a; intro a hr
    refine op_stores (wn rfl) rfl hr rfl (by kernel_rfl) (by kernel_rfl) (vs := [.slice none 0 0, .slice none 0 0, .slice none 0 0]) rfl rfl (by kernel_rfl) h (i := 0) (cs' := #[.slice none 0 0, .slice none 0 0, .slice none 0 0]) rfl ?_; clear h; intro w h
    refine ov hr (vI 2) (by kernel_rfl) ?_; clear hr a; intro a hr
    refine wpList_nil ?_
    replace h : Fit z (sepL (pts b1 (.cells #[.slice none 0 0, .slice none 0 0, .slice none 0 0] 70) :: L)) _ := h
    refine then_normal ?_
    refine wp_ret ?_
    refine then_ret ?_
    refine end_retCT (cs := [.slice none 0 0, .slice none 0 0, .slice none 0 0]) (v := vI 2) rfl hr (by kernel_rfl) (by kernel_rfl) (by kernel_rfl) (by kernel_rfl) (h.held 0 rfl) ?_
    replace h : Fit z (sepL (rowOf 39 3 enc_T_api_Effect (.slice none 0 0) ([] : List T_api_Effect) :: pts b1 (.cells #[.slice none 0 0, .slice none 0 0, .slice none 0 0] 70) :: L)) _ := h.row_nil
    replace h : Fit z (sepL (rowOf 2 1 encZ_i64 (.slice none 0 0) ([] : List Int) :: rowOf 39 3 enc_T_api_Effect (.slice none 0 0) ([] : List T_api_Effect) :: pts b1 (.cells #[.slice none 0 0, .slice none 0 0, .slice none 0 0] 70) :: L)) _ := h.row_nil
    replace h : Fit z (sepL (rowOf 90 6 enc_T_api_Access (.slice none 0 0) ([] : List T_api_Access) :: rowOf 2 1 encZ_i64 (.slice none 0 0) ([] : List Int) :: rowOf 39 3 enc_T_api_Effect (.slice none 0 0) ([] : List T_api_Effect) :: pts b1 (.cells #[.slice none 0 0, .slice none 0 0, .slice none 0 0] 70) :: L)) _ := h.row_nil
    replace h : Fit z (sepL (rowOf 39 3 enc_T_api_Effect (.slice none 0 0) ([] : List T_api_Effect) :: rowOf 2 1 encZ_i64 (.slice none 0 0) ([] : List Int) :: rowOf 90 6 enc_T_api_Access (.slice none 0 0) ([] : List T_api_Access) :: L)) _ := h.sel 4 [2, 1, 0] (by kernel_rfl) (by kernel_rfl)
    replace H := ej2 H; obtain ⟨rfl, rfl⟩ := H
    exact ⟨none, 0, none, none, rfl, h⟩
   ·
    replace H := ifF c60 H
    refine cond_ff hr (b := (decide (((p1.length : Nat) : Int) > (4096 : Int)))) (decide_eq_false c60) ?_
    refine wp_skip ?_
    refine then_normal ?_
    refine sr ?_
    replace H := bd0 H; obtain ⟨e61, H⟩ := H
    refine ov hr (pN) (by kernel_rfl) ?_; clear hr a; intro a hr
    have hc := cells_Arena_Watch_nil_ok (H := e61) (h := h)
    refine op_call (wn rfl) rfl rfl hr (f := 88) (args := #[pN, vB true]) (by kernel_rfl) hc ?_; clear hc h
    rintro _ w ⟨rfl, h⟩; refine ⟨_, rfl, ?_⟩
    clear hr a; intro a hr
    refine ln ?_
    refine sr ?_
    refine op_new (wn rfl) rfl rfl hr h (vf := fun b => .pointer (some ⟨b, 0, none⟩)) (cs := #[.slice none 0 0, .slice none 0 0, .slice none 0 0]) (T := 70) (by kernel_rfl) ?_; clear h hr a; intro b62 w a h hr
    refine ln ?_
    replace H := kd1 H; obtain ⟨o67, H, hK66⟩ := H
    refine cut_rule (β := Unit) (fun _ a w => ∃ ca63 : Option Addr, ∃ cc64 : Nat, ∃ l65 : List T_api_Effect, l65 = o67 ∧ ∃ j, Rep 48 (lk [(4, pA b1 0), (6, pN), (8, pA b62 0)] j) a ∧ Fit z (sepL (pts b1 (.cells #[.slice none 0 0, .slice none 0 0, .slice none 0 0] 70) :: pts b62 (.cells #[.slice ca63 l65.length cc64, .slice none 0 0, .slice none 0 0] 70) :: ro39 ca63 cc64 l65 :: L)) w) ?_ ?_
    ·
     refine sr ?_
     refine ovs [26, 27, 28] [.slice va1 p1.length vc1, vI ((p1.length : Nat) : Int), vI 0] hr ⟨rfl, rfl⟩ (by kernel_rfl) ?_; clear hr a; intro a hr
     refine ln ?_
     refine wp_block ?_
     replace hr := hr.fold2 [(4, pA b1 0), (6, pN), (8, pA b62 0), (26, .slice va1 p1.length vc1), (27, vI ((p1.length : Nat) : Int)), (28, vI 0)] (by kernel_rfl); obtain ⟨j, hr⟩ := hr
     replace h : Fit z (sepL (rowOf 39 3 enc_T_api_Effect (.slice none 0 0) ([] : List T_api_Effect) :: pts b62 (.cells #[.slice none 0 0, .slice none 0 0, .slice none 0 0] 70) :: pts b1 (.cells #[.slice none 0 0, .slice none 0 0, .slice none 0 0] 70) :: L)) _ := h.row_nil
     replace h : Fit z (sepL (pts b1 (.cells #[.slice none 0 0, .slice none 0 0, .slice none 0 0] 70) :: pts b62 (.cells #[.slice none (([] : List T_api_Effect).length) 0, .slice none 0 0, .slice none 0 0] 70) :: rowOf 39 3 enc_T_api_Effect (.slice none (([] : List T_api_Effect).length) 0) ([] : List T_api_Effect) :: L)) _ := h.sel 3 [2, 1, 0] (by kernel_rfl) (by kernel_rfl)
     refine loop_rule (β := Nat) id (fun m a w => ∃ ca68 : Option Addr, ∃ cc69 : Nat, ∃ l70 : List T_api_Effect, ∃ g71 : Int, (cells_Play_l2 K p1 m l70 g71) = some o67 ∧ ∃ j, Rep 48 (lk [(4, pA b1 0), (6, pN), (8, pA b62 0), (26, .slice va1 p1.length vc1), (27, vI ((p1.length : Nat) : Int)), (28, vI g71)] j) a ∧ Fit z (sepL (pts b1 (.cells #[.slice none 0 0, .slice none 0 0, .slice none 0 0] 70) :: pts b62 (.cells #[.slice ca68 l70.length cc69, .slice none 0 0, .slice none 0 0] 70) :: ro39 ca68 cc69 l70 :: L)) w) K ⟨none, 0, ([] : List T_api_Effect), 0, H, j, hr, h⟩ ?_
     clear h hr a H; rintro k2 a w ⟨ca68, cc69, l70, g71, H, j, hr, h⟩
     cases k2 with
     | zero => exact absurd H (by simp [cells_Play_l2])
     | succ k2 =>
      rw [cells_Play_l2] at H
      refine sr ?_
      refine ov hr (vB (decide (g71 < ((p1.length : Nat) : Int)))) (by kernel_rfl) ?_; clear hr a; intro a hr
      refine ln ?_
      refine wp_seq ?_
      by_cases c72 : g71 < ((p1.length : Nat) : Int)
      ·
       replace H := ifT c72 H
       refine cond_tt hr (b := (decide (g71 < ((p1.length : Nat) : Int)))) (decide_eq_true c72) ?_
       refine wp_skip ?_
       refine then_normal ?_
       refine wp_seq ?_
       refine wp_block ?_
       refine sr ?_
       replace H := gd H; obtain ⟨c73, H⟩ := H
       refine opv (wn rfl) hr (pA (blk va1) (offs va1 + g71.toNat * 5)) (ri_rd (k := .i64) (E := 57) (cc := vc1) rfl (by kernel_rfl) (by kernel_rfl) rfl (by kernel_rfl) (by kernel_rfl) hv1 c73) ?_; clear hr a; intro a hr
       refine ldm (wn rfl) hr (ag_T_api_Act (at_ p1 g71.toNat)) (cs := cl_T_api_Act (at_ p1 g71.toNat)) ⟨hv1.cell c73 (h.dn 3) 0 rfl, hv1.cell c73 (h.dn 3) 1 rfl, hv1.cell c73 (h.dn 3) 2 rfl, hv1.cell c73 (h.dn 3) 3 rfl, hv1.cell c73 (h.dn 3) 4 rfl, trivial⟩ ?_; clear hr a; intro a hr
       refine op_new (wn rfl) rfl rfl hr h (vf := fun b => .pointer (some ⟨b, 0, none⟩)) (cs := #[vI 0, vI 0, vI 0, vI 0, vI 0]) (T := 57) (by kernel_rfl) ?_; clear h hr a; intro b74 w a h hr
       refine op_stores (wn rfl) rfl hr rfl (by kernel_rfl) (by kernel_rfl) (vs := cl_T_api_Act (at_ p1 g71.toNat)) rfl rfl (by kernel_rfl) h (i := 0) (cs' := ca_T_api_Act (at_ p1 g71.toNat)) rfl ?_; clear h; intro w h
       refine wpList_nil ?_
       replace h : Fit z (sepL (ob57 b74 (at_ p1 g71.toNat) :: pts b1 (.cells #[.slice none 0 0, .slice none 0 0, .slice none 0 0] 70) :: pts b62 (.cells #[.slice ca68 l70.length cc69, .slice none 0 0, .slice none 0 0] 70) :: ro39 ca68 cc69 l70 :: L)) _ := h
       refine then_normal ?_
       replace H := bd1 H; obtain ⟨r75, e76, H⟩ := H
       replace H := gd H; obtain ⟨c80, H⟩ := H
       refine reg_E (fun w => heldC w b62 0 ([.slice ca68 l70.length cc69]) ∧ heldC w b74 0 (cl_T_api_Act (at_ p1 g71.toNat)) ∧ True) [0, 4] h (by kernel_rfl) ?_; intro w h
       change wpAnyE _ _ _ _ _ _ 9 (Array.replicate 9 false) a w
       have hgo : ∀ w w', CellsGo w w' → (heldC w b62 0 ([.slice ca68 l70.length cc69]) ∧ heldC w b74 0 (cl_T_api_Act (at_ p1 g71.toNat)) ∧ True) → heldC w' b62 0 ([.slice ca68 l70.length cc69]) ∧ heldC w' b74 0 (cl_T_api_Act (at_ p1 g71.toNat)) ∧ True := fun w w' g hD => ⟨heldC_go _ _ _ _ _ g hD.1, heldC_go _ _ _ _ _ g hD.2.1, trivial⟩
       refine evD hgo ⟨⟨(h.pick 2).cell 0 rfl, trivial⟩, (h.held 0 rfl), trivial⟩ 8 0 rfl (by kernel_rfl) (wn rfl) hr (pA b62 0) (fun w => by kernel_rfl) ?_; clear hr a; intro a hr
       refine ev 7 2 rfl (by kernel_rfl) (wn rfl) hr (pN) (fun w => by kernel_rfl) ?_; clear hr a; intro a hr
       refine el [0, 4] (b := b62) (off := 0) (cs := [.slice ca68 l70.length cc69]) (fun _ hk => ⟨hk, fun w hD => hD.1⟩) 6 1 rfl (by kernel_rfl) (wn rfl) hr (.slice ca68 l70.length cc69) ⟨(h.pick 2).cell 0 rfl, trivial⟩ (fun w hc => rl rfl (by kernel_rfl) (by kernel_rfl) hc.1) ?_; clear hr a; intro a hr
       refine el [0, 4] (b := b74) (off := 0) (cs := cl_T_api_Act (at_ p1 g71.toNat)) (fun _ hk => ⟨hk, fun w hD => hD.2.1⟩) 5 3 rfl (by kernel_rfl) (wn rfl) hr (ag_T_api_Act (at_ p1 g71.toNat)) (h.held 0 rfl) (fun w hc => rlm (cs := cl_T_api_Act (at_ p1 g71.toNat)) rfl (by kernel_rfl) (by kernel_rfl) (by kernel_rfl) hc) ?_; clear hr a; intro a hr
       refine e_one (fuel := 4) (i := 4) (by kernel_rfl) rfl ?_
       have hc := cells_Arena_act_nil_ok (H := e76) (h := h)
       refine op_call (wn rfl) rfl rfl hr (f := 89) (args := #[pN, ag_T_api_Act (at_ p1 g71.toNat)]) (by kernel_rfl) hc ?_; clear hc h
       rintro _ w ⟨rfl, h⟩; refine ⟨_, rfl, ?_⟩
       clear hr a; intro a hr
       refine wpList_nil ?_; refine then_normal ?_
       refine ⟨fun _ => ⟨⟨(h.pick 2).cell 0 rfl, trivial⟩, (h.held 0 rfl), trivial⟩, ?_⟩
       refine e_one (fuel := 3) (i := 5) (by kernel_rfl) rfl ?_
       refine op_new (wn rfl) rfl rfl hr h (vf := fun b => .slice (some ⟨b, 0, none⟩) 1 1) (cs := ca_T_api_Effect r75) (T := 39) (by kernel_rfl) ?_; clear h hr a; intro b77 w a h hr
       refine wpList_nil ?_; refine then_normal ?_
       refine ⟨fun hE => absurd hE (by decide), ?_⟩
       refine e_one (fuel := 2) (i := 6) (by kernel_rfl) rfl ?_
       replace h : Fit z (sepL (ro39 ca68 cc69 l70 :: ob39 b77 r75 :: ob57 b74 (at_ p1 g71.toNat) :: pts b1 (.cells #[.slice none 0 0, .slice none 0 0, .slice none 0 0] 70) :: pts b62 (.cells #[.slice ca68 l70.length cc69, .slice none 0 0, .slice none 0 0] 70) :: L)) _ := h.sel 5 [4, 0, 1, 2, 3] (by kernel_rfl) (by kernel_rfl)
       refine op_append (n0 := l70.length) (c := 1) (bytes := 24) (wn rfl) rfl rfl hr rfl (by kernel_rfl) (by kernel_rfl) enc_T_api_Effect_ok (E := 39) (xs := l70) (by kernel_rfl) (by kernel_rfl) h (news := [r75]) (m := 1) rfl ((h.pick 1).news rfl) c80 rfl ?_; clear h hr a; intro ca78 cc79 w a h hr
       refine wpList_nil ?_; refine then_normal ?_
       replace h : Fit z (sepL (ro39 ca78 cc79 (l70 ++ [r75]) :: ob39 b77 r75 :: ob57 b74 (at_ p1 g71.toNat) :: pts b1 (.cells #[.slice none 0 0, .slice none 0 0, .slice none 0 0] 70) :: pts b62 (.cells #[.slice ca68 l70.length cc69, .slice none 0 0, .slice none 0 0] 70) :: L)) _ := h
       refine ⟨fun hE => absurd hE (by decide), ?_⟩
       refine ev 1 7 rfl (by kernel_rfl) (wn rfl) hr (pA b62 0) (fun w => by kernel_rfl) ?_; clear hr a; intro a hr
       refine e_one (fuel := 0) (i := 8) (by kernel_rfl) rfl ?_
       replace h : Fit z (sepL (pts b62 (.cells #[.slice ca68 l70.length cc69, .slice none 0 0, .slice none 0 0] 70) :: ro39 ca78 cc79 (l70 ++ [r75]) :: ob39 b77 r75 :: ob57 b74 (at_ p1 g71.toNat) :: pts b1 (.cells #[.slice none 0 0, .slice none 0 0, .slice none 0 0] 70) :: L)) _ := h.sel 5 [4, 0, 1, 2, 3] (by kernel_rfl) (by kernel_rfl)
       refine op_store (wn rfl) rfl hr rfl (by kernel_rfl) (by kernel_rfl) (v := .slice ca78 ((l70 ++ [r75]).length) cc79) rfl rfl (by kernel_rfl) h (i := 0) rfl ?_; clear h; intro w h
       refine wpList_nil ?_; refine then_normal ?_
       replace h : Fit z (sepL (pts b62 (.cells #[.slice ca78 ((l70 ++ [r75]).length) cc79, .slice none 0 0, .slice none 0 0] 70) :: ro39 ca78 cc79 (l70 ++ [r75]) :: ob39 b77 r75 :: ob57 b74 (at_ p1 g71.toNat) :: pts b1 (.cells #[.slice none 0 0, .slice none 0 0, .slice none 0 0] 70) :: L)) _ := h
       refine ⟨fun hE => absurd hE (by decide), ?_⟩
       refine e_end (by kernel_rfl) ?_
       refine blk_normal ?_
       refine then_normal ?_
       refine wp_region_lit ?_
       refine ovs [40, 28] [vI (wi (g71 + (1 : Int))), vI (wi (g71 + (1 : Int)))] hr ⟨rfl, rfl⟩ (by kernel_rfl) ?_; clear hr a; intro a hr
       refine ln ?_
       replace hr := hr.fold2 [(4, pA b1 0), (6, pN), (8, pA b62 0), (26, .slice va1 p1.length vc1), (27, vI ((p1.length : Nat) : Int)), (28, vI (wi (g71 + (1 : Int))))] (by kernel_rfl); obtain ⟨j, hr⟩ := hr
       replace h : Fit z (sepL (pts b1 (.cells #[.slice none 0 0, .slice none 0 0, .slice none 0 0] 70) :: pts b62 (.cells #[.slice ca78 ((l70 ++ [r75]).length) cc79, .slice none 0 0, .slice none 0 0] 70) :: ro39 ca78 cc79 (l70 ++ [r75]) :: L)) _ := h.sel 5 [4, 0, 1] (by kernel_rfl) (by kernel_rfl)
       exact ⟨_, ⟨ca78, cc79, (l70 ++ [r75]), (wi (g71 + (1 : Int))), H, j, hr, h⟩, Nat.lt_succ_self _⟩
      ·
       replace H := ifF c72 H
       refine cond_ff hr (b := (decide (g71 < ((p1.length : Nat) : Int)))) (decide_eq_false c72) ?_
       refine wp_exit ?_
       refine then_exit ?_
       refine then_exit ?_
       refine blk_here ?_
       refine then_normal ?_
       replace hr := hr.fold2 [(4, pA b1 0), (6, pN), (8, pA b62 0)] (by kernel_rfl); obtain ⟨j, hr⟩ := hr
       exact ⟨(), ca68, cc69, l70, sinj H, j, hr, h⟩
    clear h hr a; rintro _ a w ⟨ca63, cc64, l65, rfl, j, hr, h⟩
    replace H := kk1 hK66
    refine sr ?_
    replace H := bd1 H; obtain ⟨r81, e82, H⟩ := H
    refine ov hr (pN) (by kernel_rfl) ?_; clear hr a; intro a hr
    have hc := cells_Arena_Cells_nil_ok (H := e82) (h := h)
    refine op_call (wn rfl) rfl rfl hr (f := 24) (args := #[pN]) (by kernel_rfl) hc ?_; clear hc h
    rintro _ w ⟨car83, rfl, h⟩; refine ⟨_, rfl, ?_⟩
    clear hr a; intro a hr
    refine ov hr (pA b62 1) (by kernel_rfl) ?_; clear hr a; intro a hr
    replace h : Fit z (sepL (pts b62 (.cells #[.slice ca63 l65.length cc64, .slice none 0 0, .slice none 0 0] 70) :: ro2 car83 r81.length r81 :: pts b1 (.cells #[.slice none 0 0, .slice none 0 0, .slice none 0 0] 70) :: ro39 ca63 cc64 l65 :: L)) _ := h.sel 4 [2, 0, 1, 3] (by kernel_rfl) (by kernel_rfl)
    refine op_store (wn rfl) rfl hr rfl (by kernel_rfl) (by kernel_rfl) (v := .slice car83 r81.length r81.length) rfl rfl (by kernel_rfl) h (i := 1) rfl ?_; clear h; intro w h
    refine wpList_nil ?_
    replace h : Fit z (sepL (pts b62 (.cells #[.slice ca63 l65.length cc64, .slice car83 r81.length r81.length, .slice none 0 0] 70) :: ro2 car83 r81.length r81 :: pts b1 (.cells #[.slice none 0 0, .slice none 0 0, .slice none 0 0] 70) :: ro39 ca63 cc64 l65 :: L)) _ := h
    refine then_normal ?_
    refine sr ?_
    replace H := bd1 H; obtain ⟨r84, e85, H⟩ := H
    refine ov hr (pN) (by kernel_rfl) ?_; clear hr a; intro a hr
    have hc := cells_Arena_Log_nil_ok (H := e85) (h := h)
    refine op_call (wn rfl) rfl rfl hr (f := 70) (args := #[pN]) (by kernel_rfl) hc ?_; clear hc h
    rintro _ w ⟨car86, rfl, h⟩; refine ⟨_, rfl, ?_⟩
    clear hr a; intro a hr
    refine ov hr (pA b62 2) (by kernel_rfl) ?_; clear hr a; intro a hr
    replace h : Fit z (sepL (pts b62 (.cells #[.slice ca63 l65.length cc64, .slice car83 r81.length r81.length, .slice none 0 0] 70) :: ro90 car86 r84.length r84 :: ro2 car83 r81.length r81 :: pts b1 (.cells #[.slice none 0 0, .slice none 0 0, .slice none 0 0] 70) :: ro39 ca63 cc64 l65 :: L)) _ := h.sel 5 [1, 0, 2, 3, 4] (by kernel_rfl) (by kernel_rfl)
    refine op_store (wn rfl) rfl hr rfl (by kernel_rfl) (by kernel_rfl) (v := .slice car86 r84.length r84.length) rfl rfl (by kernel_rfl) h (i := 2) rfl ?_; clear h; intro w h
    refine wpList_nil ?_
    replace h : Fit z (sepL (pts b62 (.cells #[.slice ca63 l65.length cc64, .slice car83 r81.length r81.length, .slice car86 r84.length r84.length] 70) :: ro90 car86 r84.length r84 :: ro2 car83 r81.length r81 :: pts b1 (.cells #[.slice none 0 0, .slice none 0 0, .slice none 0 0] 70) :: ro39 ca63 cc64 l65 :: L)) _ := h
    refine then_normal ?_
    refine sr ?_
    refine ldm (wn rfl) hr (.agg #[.slice ca63 l65.length cc64, .slice car83 r81.length r81.length, .slice car86 r84.length r84.length]) (cs := [.slice ca63 l65.length cc64, .slice car83 r81.length r81.length, .slice car86 r84.length r84.length]) (h.held 0 rfl) ?_; clear hr a; intro a hr
    replace h : Fit z (sepL (pts b1 (.cells #[.slice none 0 0, .slice none 0 0, .slice none 0 0] 70) :: pts b62 (.cells #[.slice ca63 l65.length cc64, .slice car83 r81.length r81.length, .slice car86 r84.length r84.length] 70) :: ro90 car86 r84.length r84 :: ro2 car83 r81.length r81 :: ro39 ca63 cc64 l65 :: L)) _ := h.sel 5 [3, 0, 1, 2, 4] (by kernel_rfl) (by kernel_rfl)
    refine op_stores (wn rfl) rfl hr rfl (by kernel_rfl) (by kernel_rfl) (vs := [.slice ca63 l65.length cc64, .slice car83 r81.length r81.length, .slice car86 r84.length r84.length]) rfl rfl (by kernel_rfl) h (i := 0) (cs' := #[.slice ca63 l65.length cc64, .slice car83 r81.length r81.length, .slice car86 r84.length r84.length]) rfl ?_; clear h; intro w h
    refine ov hr (vI 0) (by kernel_rfl) ?_; clear hr a; intro a hr
    refine wpList_nil ?_
    replace h : Fit z (sepL (pts b1 (.cells #[.slice ca63 l65.length cc64, .slice car83 r81.length r81.length, .slice car86 r84.length r84.length] 70) :: pts b62 (.cells #[.slice ca63 l65.length cc64, .slice car83 r81.length r81.length, .slice car86 r84.length r84.length] 70) :: ro90 car86 r84.length r84 :: ro2 car83 r81.length r81 :: ro39 ca63 cc64 l65 :: L)) _ := h
    refine then_normal ?_
    refine wp_ret ?_
    refine end_retCT (cs := [.slice ca63 l65.length cc64, .slice car83 r81.length r81.length, .slice car86 r84.length r84.length]) (v := vI 0) rfl hr (by kernel_rfl) (by kernel_rfl) (by kernel_rfl) (by kernel_rfl) (h.held 0 rfl) ?_
    replace h : Fit z (sepL (ro39 ca63 cc64 l65 :: ro2 car83 r81.length r81 :: ro90 car86 r84.length r84 :: L)) _ := h.sel 5 [4, 3, 2] (by kernel_rfl) (by kernel_rfl)
    replace H := ej2 H; obtain ⟨rfl, rfl⟩ := H
    exact ⟨ca63, cc64, car83, car86, rfl, h⟩
  ·
   replace H := ifF c59 H
   refine cond_tt hr (b := (r3 != (0 : Int))) (bne_iff_ne.mpr c59) ?_
   refine sr ?_
   refine ovs [18, 19] [.agg #[.slice none 0 0, .slice none 0 0, .slice none 0 0], vI r3] hr ⟨rfl, rfl⟩ (by kernel_rfl) ?_; clear hr a; intro a hr
   refine op_stores (wn rfl) rfl hr rfl (by kernel_rfl) (by kernel_rfl) (vs := [.slice none 0 0, .slice none 0 0, .slice none 0 0]) rfl rfl (by kernel_rfl) h (i := 0) (cs' := #[.slice none 0 0, .slice none 0 0, .slice none 0 0]) rfl ?_; clear h; intro w h
   refine ov hr (vI r3) (by kernel_rfl) ?_; clear hr a; intro a hr
   refine wpList_nil ?_
   replace h : Fit z (sepL (pts b1 (.cells #[.slice none 0 0, .slice none 0 0, .slice none 0 0] 70) :: L)) _ := h
   refine then_normal ?_
   refine wp_ret ?_
   refine then_ret ?_
   refine end_retCT (cs := [.slice none 0 0, .slice none 0 0, .slice none 0 0]) (v := vI r3) rfl hr (by kernel_rfl) (by kernel_rfl) (by kernel_rfl) (by kernel_rfl) (h.held 0 rfl) ?_
   replace h : Fit z (sepL (rowOf 39 3 enc_T_api_Effect (.slice none 0 0) ([] : List T_api_Effect) :: pts b1 (.cells #[.slice none 0 0, .slice none 0 0, .slice none 0 0] 70) :: L)) _ := h.row_nil
   replace h : Fit z (sepL (rowOf 2 1 encZ_i64 (.slice none 0 0) ([] : List Int) :: rowOf 39 3 enc_T_api_Effect (.slice none 0 0) ([] : List T_api_Effect) :: pts b1 (.cells #[.slice none 0 0, .slice none 0 0, .slice none 0 0] 70) :: L)) _ := h.row_nil
   replace h : Fit z (sepL (rowOf 90 6 enc_T_api_Access (.slice none 0 0) ([] : List T_api_Access) :: rowOf 2 1 encZ_i64 (.slice none 0 0) ([] : List Int) :: rowOf 39 3 enc_T_api_Effect (.slice none 0 0) ([] : List T_api_Effect) :: pts b1 (.cells #[.slice none 0 0, .slice none 0 0, .slice none 0 0] 70) :: L)) _ := h.row_nil
   replace h : Fit z (sepL (rowOf 39 3 enc_T_api_Effect (.slice none 0 0) ([] : List T_api_Effect) :: rowOf 2 1 encZ_i64 (.slice none 0 0) ([] : List Int) :: rowOf 90 6 enc_T_api_Access (.slice none 0 0) ([] : List T_api_Access) :: L)) _ := h.sel 4 [2, 1, 0] (by kernel_rfl) (by kernel_rfl)
   replace H := ej2 H; obtain ⟨rfl, rfl⟩ := H
   exact ⟨none, 0, none, none, rfl, h⟩


end Go.Proofs.Ytacgigkonoegiaa.Mo
