/- what the functions compute, as plain Lean functions, and that they do -/
import Derived.Test.YtacgigkonoegiaaCn0
namespace Go.Proofs.Ytacgigkonoegiaa.Mo
open Go Go.RowKit Go.Proofs.Ytacgigkonoegiaa.SL Go.Proofs.Ytacgigkonoegiaa.GX
set_option linter.unusedVariables false
set_option linter.unusedSimpArgs false

/-- (*plunder/cells.Arena).Watch -/
def cells_Arena_Watch_nil (p1 : Bool) : Option (Unit) :=
  some ()
set_option maxRecDepth 100000 in
set_option maxHeartbeats 4000000 in
theorem cells_Arena_Watch_nil_ok {z w : World} {L : List HProp} {p1 : Bool} (H : cells_Arena_Watch_nil p1 = some ()) (h : Fit z (sepL (L)) w)  :
    Calls Try.prog 88 #[pN, vB p1] w fun e w => e = .returned (.tuple #[]) ∧ Fit z (sepL (L)) w := by
 unfold cells_Arena_Watch_nil at H
 refine enter Try.func88 rfl 10 rfl rfl [(0, pN), (1, vB p1)] ⟨rfl, rfl, trivial⟩ ?_
 intro j a hr
 refine sr ?_
 refine ovs [4, 5] [pN, vB false] hr ⟨rfl, rfl⟩ (by kernel_rfl) ?_; clear hr a; intro a hr
 refine ln ?_
 refine cond_ff hr (b := false) rfl ?_
 refine wp_skip ?_
 refine end_norm0 rfl hr ?_
 cases H
 exact ⟨rfl, h⟩

/-- (*plunder/cells.Arena).Who -/
def cells_Arena_Who_nil (p1 : Int) : Option (Unit) :=
  some ()
set_option maxRecDepth 100000 in
set_option maxHeartbeats 4000000 in
theorem cells_Arena_Who_nil_ok {z w : World} {L : List HProp} {p1 : Int} (H : cells_Arena_Who_nil p1 = some ()) (h : Fit z (sepL (L)) w)  :
    Calls Try.prog 96 #[pN, vI p1] w fun e w => e = .returned (.tuple #[]) ∧ Fit z (sepL (L)) w := by
 unfold cells_Arena_Who_nil at H
 refine enter Try.func96 rfl 10 rfl rfl [(0, pN), (1, vI p1)] ⟨rfl, rfl, trivial⟩ ?_
 intro j a hr
 refine sr ?_
 refine ovs [4, 5] [pN, vB false] hr ⟨rfl, rfl⟩ (by kernel_rfl) ?_; clear hr a; intro a hr
 refine ln ?_
 refine cond_ff hr (b := false) rfl ?_
 refine wp_skip ?_
 refine end_norm0 rfl hr ?_
 cases H
 exact ⟨rfl, h⟩

/-- (*plunder/cells.Arena).outside -/
def cells_Arena_outside_nil (p1 : Int) : Option (Bool) :=
  some true
set_option maxRecDepth 100000 in
set_option maxHeartbeats 4000000 in
theorem cells_Arena_outside_nil_ok {z w : World} {L : List HProp} {p1 : Int} {r0 : Bool} (H : cells_Arena_outside_nil p1 = some r0) (h : Fit z (sepL (L)) w)  :
    Calls Try.prog 65 #[pN, vI p1] w fun e w => e = .returned (vB r0) ∧ Fit z (sepL (L)) w := by
 unfold cells_Arena_outside_nil at H
 refine enter Try.func65 rfl 15 rfl rfl [(0, pN), (1, vI p1)] ⟨rfl, rfl, trivial⟩ ?_
 intro j a hr
 refine sr ?_
 refine ov hr (vB false) (by kernel_rfl) ?_; clear hr a; intro a hr
 refine ln ?_
 refine sr ?_
 refine ovs [5, 6, 7] [pN, vB true, vB true] hr ⟨rfl, rfl⟩ (by kernel_rfl) ?_; clear hr a; intro a hr
 refine offg (wgt hr (c := true) rfl) hr ?_; clear hr a; intro a hr
 refine offg (wgt hr (c := true) rfl) hr ?_; clear hr a; intro a hr
 refine offg (wgt hr (c := true) rfl) hr ?_; clear hr a; intro a hr
 refine offg (wgt hr (c := true) rfl) hr ?_; clear hr a; intro a hr
 refine offg (wgt hr (c := true) rfl) hr ?_; clear hr a; intro a hr
 refine offg (wgt hr (c := true) rfl) hr ?_; clear hr a; intro a hr
 refine ovs [14, 4] [vB true, vB true] hr ⟨rfl, rfl⟩ (by kernel_rfl) ?_; clear hr a; intro a hr
 refine ln ?_
 refine wp_ret ?_
 refine end_ret1 (v := vB true) rfl hr (by kernel_rfl) ?_
 replace H := ej1 H; subst H
 exact ⟨rfl, h⟩

/-- (*plunder/cells.Arena).Load -/
def cells_Arena_Load_nil (p1 : Int) : Option (Int × Int) :=
  ob1 (cells_Arena_outside_nil p1) (fun r1 => (if r1 = true then some (0, 20) else none))
set_option maxRecDepth 100000 in
set_option maxHeartbeats 4000000 in
theorem cells_Arena_Load_nil_ok {z w : World} {L : List HProp} {p1 : Int} {r0 : Int} {r1 : Int} (H : cells_Arena_Load_nil p1 = some (r0, r1)) (h : Fit z (sepL (L)) w)  :
    Calls Try.prog 66 #[pN, vI p1] w fun e w => e = .returned (.tuple #[vI r0, vI r1]) ∧ Fit z (sepL (L)) w := by
 unfold cells_Arena_Load_nil at H
 refine enter Try.func66 rfl 22 rfl rfl [(0, pN), (1, vI p1)] ⟨rfl, rfl, trivial⟩ ?_
 intro j a hr
 refine sr ?_
 refine ovs [4, 5] [vI 0, vI 0] hr ⟨rfl, rfl⟩ (by kernel_rfl) ?_; clear hr a; intro a hr
 refine ln ?_
 refine wp_seq ?_
 refine sr ?_
 replace H := bd1 H; obtain ⟨r1, e2, H⟩ := H
 refine ovs [7, 8] [pN, vI p1] hr ⟨rfl, rfl⟩ (by kernel_rfl) ?_; clear hr a; intro a hr
 have hc := cells_Arena_outside_nil_ok (H := e2) (h := h)
 refine op_call (wn rfl) rfl rfl hr (f := 65) (args := #[pN, vI p1]) (by kernel_rfl) hc ?_; clear hc h
 rintro _ w ⟨rfl, h⟩; refine ⟨_, rfl, ?_⟩
 clear hr a; intro a hr
 refine ln ?_
 by_cases c3 : r1 = true
 ·
  replace H := ifT c3 H
  refine cond_tt hr (b := r1) (c3) ?_
  refine sr ?_
  refine ovs [4, 5] [vI 0, vI 20] hr ⟨rfl, rfl⟩ (by kernel_rfl) ?_; clear hr a; intro a hr
  refine ln ?_
  refine wp_ret ?_
  refine then_ret ?_
  refine end_ret2 (v := vI 0) (v' := vI 20) rfl hr (by kernel_rfl) (by kernel_rfl) ?_
  replace H := ej2 H; obtain ⟨rfl, rfl⟩ := H
  exact ⟨rfl, h⟩
 ·
  replace H := ifF c3 H
  refine cond_ff hr (b := r1) (bF c3) ?_
  refine wp_skip ?_
  refine then_normal ?_
  refine sr ?_
  cases H

/-- (*plunder/cells.Arena).Store -/
def cells_Arena_Store_nil (p1 : Int) (p2 : Int) : Option (Int) :=
  ob1 (cells_Arena_outside_nil p1) (fun r1 => (if r1 = true then some 20 else none))
set_option maxRecDepth 100000 in
set_option maxHeartbeats 4000000 in
theorem cells_Arena_Store_nil_ok {z w : World} {L : List HProp} {p1 : Int} {p2 : Int} {r0 : Int} (H : cells_Arena_Store_nil p1 p2 = some r0) (h : Fit z (sepL (L)) w)  :
    Calls Try.prog 21 #[pN, vI p1, vI p2] w fun e w => e = .returned (vI r0) ∧ Fit z (sepL (L)) w := by
 unfold cells_Arena_Store_nil at H
 refine enter Try.func21 rfl 21 rfl rfl [(0, pN), (1, vI p1), (2, vI p2)] ⟨rfl, rfl, rfl, trivial⟩ ?_
 intro j a hr
 refine sr ?_
 refine ov hr (vI 0) (by kernel_rfl) ?_; clear hr a; intro a hr
 refine ln ?_
 refine wp_seq ?_
 refine sr ?_
 replace H := bd1 H; obtain ⟨r1, e2, H⟩ := H
 refine ovs [7, 8] [pN, vI p1] hr ⟨rfl, rfl⟩ (by kernel_rfl) ?_; clear hr a; intro a hr
 have hc := cells_Arena_outside_nil_ok (H := e2) (h := h)
 refine op_call (wn rfl) rfl rfl hr (f := 65) (args := #[pN, vI p1]) (by kernel_rfl) hc ?_; clear hc h
 rintro _ w ⟨rfl, h⟩; refine ⟨_, rfl, ?_⟩
 clear hr a; intro a hr
 refine ln ?_
 by_cases c3 : r1 = true
 ·
  replace H := ifT c3 H
  refine cond_tt hr (b := r1) (c3) ?_
  refine sr ?_
  refine ov hr (vI 20) (by kernel_rfl) ?_; clear hr a; intro a hr
  refine ln ?_
  refine wp_ret ?_
  refine then_ret ?_
  refine end_ret1 (v := vI 20) rfl hr (by kernel_rfl) ?_
  replace H := ej1 H; subst H
  exact ⟨rfl, h⟩
 ·
  replace H := ifF c3 H
  refine cond_ff hr (b := r1) (bF c3) ?_
  refine wp_skip ?_
  refine then_normal ?_
  refine sr ?_
  cases H

/-- (*plunder/cells.Arena).CAS -/
def cells_Arena_CAS_nil (p1 : Int) (p2 : Int) (p3 : Int) : Option (Bool × Int) :=
  ob1 (cells_Arena_outside_nil p1) (fun r1 => (if r1 = true then some (false, 20) else none))
set_option maxRecDepth 100000 in
set_option maxHeartbeats 4000000 in
theorem cells_Arena_CAS_nil_ok {z w : World} {L : List HProp} {p1 : Int} {p2 : Int} {p3 : Int} {r0 : Bool} {r1 : Int} (H : cells_Arena_CAS_nil p1 p2 p3 = some (r0, r1)) (h : Fit z (sepL (L)) w)  :
    Calls Try.prog 67 #[pN, vI p1, vI p2, vI p3] w fun e w => e = .returned (.tuple #[vB r0, vI r1]) ∧ Fit z (sepL (L)) w := by
 unfold cells_Arena_CAS_nil at H
 refine enter Try.func67 rfl 38 rfl rfl [(0, pN), (1, vI p1), (2, vI p2), (3, vI p3)] ⟨rfl, rfl, rfl, rfl, trivial⟩ ?_
 intro j a hr
 refine sr ?_
 refine ovs [8, 9] [vB false, vI 0] hr ⟨rfl, rfl⟩ (by kernel_rfl) ?_; clear hr a; intro a hr
 refine ln ?_
 refine wp_seq ?_
 refine sr ?_
 replace H := bd1 H; obtain ⟨r1, e2, H⟩ := H
 refine ovs [11, 12] [pN, vI p1] hr ⟨rfl, rfl⟩ (by kernel_rfl) ?_; clear hr a; intro a hr
 have hc := cells_Arena_outside_nil_ok (H := e2) (h := h)
 refine op_call (wn rfl) rfl rfl hr (f := 65) (args := #[pN, vI p1]) (by kernel_rfl) hc ?_; clear hc h
 rintro _ w ⟨rfl, h⟩; refine ⟨_, rfl, ?_⟩
 clear hr a; intro a hr
 refine ln ?_
 by_cases c3 : r1 = true
 ·
  replace H := ifT c3 H
  refine cond_tt hr (b := r1) (c3) ?_
  refine sr ?_
  refine ovs [8, 9] [vB false, vI 20] hr ⟨rfl, rfl⟩ (by kernel_rfl) ?_; clear hr a; intro a hr
  refine ln ?_
  refine wp_ret ?_
  refine then_ret ?_
  refine end_ret2 (v := vB false) (v' := vI 20) rfl hr (by kernel_rfl) (by kernel_rfl) ?_
  replace H := ej2 H; obtain ⟨rfl, rfl⟩ := H
  exact ⟨rfl, h⟩
 ·
  replace H := ifF c3 H
  refine cond_ff hr (b := r1) (bF c3) ?_
  refine wp_skip ?_
  refine then_normal ?_
  refine sr ?_
  cases H

/-- (*plunder/cells.Arena).Add -/
def cells_Arena_Add_nil (p1 : Int) (p2 : Int) : Option (Int × Int) :=
  ob1 (cells_Arena_outside_nil p1) (fun r1 => (if r1 = true then some (0, 20) else none))
set_option maxRecDepth 100000 in
set_option maxHeartbeats 4000000 in
theorem cells_Arena_Add_nil_ok {z w : World} {L : List HProp} {p1 : Int} {p2 : Int} {r0 : Int} {r1 : Int} (H : cells_Arena_Add_nil p1 p2 = some (r0, r1)) (h : Fit z (sepL (L)) w)  :
    Calls Try.prog 68 #[pN, vI p1, vI p2] w fun e w => e = .returned (.tuple #[vI r0, vI r1]) ∧ Fit z (sepL (L)) w := by
 unfold cells_Arena_Add_nil at H
 refine enter Try.func68 rfl 39 rfl rfl [(0, pN), (1, vI p1), (2, vI p2)] ⟨rfl, rfl, rfl, trivial⟩ ?_
 intro j a hr
 refine sr ?_
 refine ovs [6, 7] [vI 0, vI 0] hr ⟨rfl, rfl⟩ (by kernel_rfl) ?_; clear hr a; intro a hr
 refine ln ?_
 refine wp_seq ?_
 refine sr ?_
 replace H := bd1 H; obtain ⟨r1, e2, H⟩ := H
 refine ovs [8, 9] [pN, vI p1] hr ⟨rfl, rfl⟩ (by kernel_rfl) ?_; clear hr a; intro a hr
 have hc := cells_Arena_outside_nil_ok (H := e2) (h := h)
 refine op_call (wn rfl) rfl rfl hr (f := 65) (args := #[pN, vI p1]) (by kernel_rfl) hc ?_; clear hc h
 rintro _ w ⟨rfl, h⟩; refine ⟨_, rfl, ?_⟩
 clear hr a; intro a hr
 refine ln ?_
 by_cases c3 : r1 = true
 ·
  replace H := ifT c3 H
  refine cond_tt hr (b := r1) (c3) ?_
  refine sr ?_
  refine ovs [6, 7] [vI 0, vI 20] hr ⟨rfl, rfl⟩ (by kernel_rfl) ?_; clear hr a; intro a hr
  refine ln ?_
  refine wp_ret ?_
  refine then_ret ?_
  refine end_ret2 (v := vI 0) (v' := vI 20) rfl hr (by kernel_rfl) (by kernel_rfl) ?_
  replace H := ej2 H; obtain ⟨rfl, rfl⟩ := H
  exact ⟨rfl, h⟩
 ·
  replace H := ifF c3 H
  refine cond_ff hr (b := r1) (bF c3) ?_
  refine wp_skip ?_
  refine then_normal ?_
  refine sr ?_
  cases H

/-- (*plunder/cells.ledger).refuse -/
def cells_ledger_refuse_nil (p1 : Int) : Option (Int) :=
  (if p1 < (1 : Int) then some 21 else some 22)
set_option maxRecDepth 100000 in
set_option maxHeartbeats 4000000 in
theorem cells_ledger_refuse_nil_ok {z w : World} {L : List HProp} {p1 : Int} {r0 : Int} (H : cells_ledger_refuse_nil p1 = some r0) (h : Fit z (sepL (L)) w)  :
    Calls Try.prog 62 #[pN, vI p1] w fun e w => e = .returned (vI r0) ∧ Fit z (sepL (L)) w := by
 unfold cells_ledger_refuse_nil at H
 refine enter Try.func62 rfl 22 rfl rfl [(0, pN), (1, vI p1)] ⟨rfl, rfl, trivial⟩ ?_
 intro j a hr
 refine sr ?_
 refine ov hr (vI 0) (by kernel_rfl) ?_; clear hr a; intro a hr
 refine ln ?_
 refine wp_seq ?_
 refine sr ?_
 refine ovs [5, 6] [vI p1, vB (decide (p1 < (1 : Int)))] hr ⟨rfl, rfl⟩ (by kernel_rfl) ?_; clear hr a; intro a hr
 refine ln ?_
 by_cases c1 : p1 < (1 : Int)
 ·
  replace H := ifT c1 H
  refine cond_tt hr (b := (decide (p1 < (1 : Int)))) (decide_eq_true c1) ?_
  refine sr ?_
  refine ov hr (vI 21) (by kernel_rfl) ?_; clear hr a; intro a hr
  refine ln ?_
  refine wp_ret ?_
  refine then_ret ?_
  refine end_ret1 (v := vI 21) rfl hr (by kernel_rfl) ?_
  replace H := ej1 H; subst H
  exact ⟨rfl, h⟩
 ·
  replace H := ifF c1 H
  refine cond_ff hr (b := (decide (p1 < (1 : Int)))) (decide_eq_false c1) ?_
  refine wp_skip ?_
  refine then_normal ?_
  refine wp_seq ?_
  refine wp_seq ?_
  refine reg_E (fun w => True) [] h (by kernel_rfl) ?_; intro w h
  change wpAnyE _ _ _ _ _ _ 15 (Array.replicate 15 false) a w
  refine ev 14 0 rfl (by kernel_rfl) (wn rfl) hr (pN) (fun w => by kernel_rfl) ?_; clear hr a; intro a hr
  refine ev 13 1 rfl (by kernel_rfl) (wn rfl) hr (vB true) (fun w => by kernel_rfl) ?_; clear hr a; intro a hr
  refine ev 12 2 rfl (by kernel_rfl) (wn rfl) hr (vB true) (fun w => by kernel_rfl) ?_; clear hr a; intro a hr
  refine eo 11 3 rfl (by kernel_rfl) (wgt hr (c := true) rfl) hr ?_; clear hr a; intro a hr
  refine eo 10 4 rfl (by kernel_rfl) (wgt hr (c := true) rfl) hr ?_; clear hr a; intro a hr
  refine eo 9 5 rfl (by kernel_rfl) (wgt hr (c := true) rfl) hr ?_; clear hr a; intro a hr
  refine eo 8 6 rfl (by kernel_rfl) (wgt hr (c := true) rfl) hr ?_; clear hr a; intro a hr
  refine eo 7 8 rfl (by kernel_rfl) (wgt hr (c := true) rfl) hr ?_; clear hr a; intro a hr
  refine eo 6 9 rfl (by kernel_rfl) (wgt hr (c := true) rfl) hr ?_; clear hr a; intro a hr
  refine eo 5 10 rfl (by kernel_rfl) (wgt hr (c := true) rfl) hr ?_; clear hr a; intro a hr
  refine eo 4 7 rfl (by kernel_rfl) (wgt hr (c := true) rfl) hr ?_; clear hr a; intro a hr
  refine eo 3 11 rfl (by kernel_rfl) (wgt hr (c := true) rfl) hr ?_; clear hr a; intro a hr
  refine eo 2 12 rfl (by kernel_rfl) (wgt hr (c := true) rfl) hr ?_; clear hr a; intro a hr
  refine eo 1 13 rfl (by kernel_rfl) (wgt hr (c := true) rfl) hr ?_; clear hr a; intro a hr
  refine ev 0 14 rfl (by kernel_rfl) (wn rfl) hr (vB true) (fun w => by kernel_rfl) ?_; clear hr a; intro a hr
  refine e_end (by kernel_rfl) ?_
  refine then_normal ?_
  refine cond_tt hr (b := true) rfl ?_
  refine sr ?_
  refine ov hr (vI 22) (by kernel_rfl) ?_; clear hr a; intro a hr
  refine ln ?_
  refine wp_ret ?_
  refine then_ret ?_
  refine end_ret1 (v := vI 22) rfl hr (by kernel_rfl) ?_
  replace H := ej1 H; subst H
  exact ⟨rfl, h⟩

/-- (*plunder/cells.Arena).Reserve -/
def cells_Arena_Reserve_nil (p1 : Int) : Option (Int × Int) :=
  ob0 (some ()) (ob1 (cells_ledger_refuse_nil p1) (fun r3 => (if r3 = (0 : Int) then none else some (0, r3))))
set_option maxRecDepth 100000 in
set_option maxHeartbeats 4000000 in
theorem cells_Arena_Reserve_nil_ok {z w : World} {L : List HProp} {p1 : Int} {r0 : Int} {r1 : Int} (H : cells_Arena_Reserve_nil p1 = some (r0, r1)) (h : Fit z (sepL (L)) w)  :
    Calls Try.prog 20 #[pN, vI p1] w fun e w => e = .returned (.tuple #[vI r0, vI r1]) ∧ Fit z (sepL (L)) w := by
 unfold cells_Arena_Reserve_nil at H
 refine enter Try.func20 rfl 37 rfl rfl [(0, pN), (1, vI p1)] ⟨rfl, rfl, trivial⟩ ?_
 intro j a hr
 refine sr ?_
 refine ovs [4, 5] [vI 0, vI 0] hr ⟨rfl, rfl⟩ (by kernel_rfl) ?_; clear hr a; intro a hr
 refine ln ?_
 refine sr ?_
 refine ov hr (pN) (by kernel_rfl) ?_; clear hr a; intro a hr
 refine ln ?_
 replace H := kd0 H; obtain ⟨o2, H, hK1⟩ := H
 refine cut_rule (β := Unit) (fun _ a w => () = o2 ∧ ∃ j, Rep 37 (lk [(0, pN), (1, vI p1), (6, pN)] j) a ∧ Fit z (sepL (L)) w) ?_ ?_
 ·
  refine sr ?_
  refine ovs [9, 10] [pN, vB false] hr ⟨rfl, rfl⟩ (by kernel_rfl) ?_; clear hr a; intro a hr
  refine ln ?_
  refine cond_ff hr (b := false) rfl ?_
  refine wp_skip ?_
  refine then_normal ?_
  replace hr := hr.fold2 [(0, pN), (1, vI p1), (6, pN)] (by kernel_rfl); obtain ⟨j, hr⟩ := hr
  exact ⟨(), sinj H, j, hr, h⟩
 clear h hr a; rintro _ a w ⟨rfl, j, hr, h⟩
 replace H := kk0 hK1
 refine wp_seq ?_
 refine sr ?_
 replace H := bd1 H; obtain ⟨r3, e4, H⟩ := H
 refine ovs [14, 15] [pN, vI p1] hr ⟨rfl, rfl⟩ (by kernel_rfl) ?_; clear hr a; intro a hr
 have hc := cells_ledger_refuse_nil_ok (H := e4) (h := h)
 refine op_call (wn rfl) rfl rfl hr (f := 62) (args := #[pN, vI p1]) (by kernel_rfl) hc ?_; clear hc h
 rintro _ w ⟨rfl, h⟩; refine ⟨_, rfl, ?_⟩
 clear hr a; intro a hr
 refine ov hr (vI r3) (by kernel_rfl) ?_; clear hr a; intro a hr
 refine ln ?_
 refine sr ?_
 refine ovs [17, 18] [vI r3, vB (r3 != (0 : Int))] hr ⟨rfl, rfl⟩ (by kernel_rfl) ?_; clear hr a; intro a hr
 refine ln ?_
 by_cases c5 : r3 = (0 : Int)
 ·
  replace H := ifT c5 H
  refine cond_ff hr (b := (r3 != (0 : Int))) (bne_eq_false_iff_eq.mpr c5) ?_
  refine wp_skip ?_
  refine then_normal ?_
  refine sr ?_
  cases H
 ·
  replace H := ifF c5 H
  refine cond_tt hr (b := (r3 != (0 : Int))) (bne_iff_ne.mpr c5) ?_
  refine sr ?_
  refine ovs [19, 4, 5] [vI r3, vI 0, vI r3] hr ⟨rfl, rfl⟩ (by kernel_rfl) ?_; clear hr a; intro a hr
  refine ln ?_
  refine wp_ret ?_
  refine then_ret ?_
  refine end_ret2 (v := vI 0) (v' := vI r3) rfl hr (by kernel_rfl) (by kernel_rfl) ?_
  replace H := ej2 H; obtain ⟨rfl, rfl⟩ := H
  exact ⟨rfl, h⟩

/-- (*plunder/cells.Arena).Size -/
def cells_Arena_Size_nil : Option (Int) :=
  some 0
set_option maxRecDepth 100000 in
set_option maxHeartbeats 4000000 in
theorem cells_Arena_Size_nil_ok {z w : World} {L : List HProp}  {r0 : Int} (H : cells_Arena_Size_nil = some r0) (h : Fit z (sepL (L)) w)  :
    Calls Try.prog 97 #[pN] w fun e w => e = .returned (vI r0) ∧ Fit z (sepL (L)) w := by
 unfold cells_Arena_Size_nil at H
 refine enter Try.func97 rfl 9 rfl rfl [(0, pN)] ⟨rfl, trivial⟩ ?_
 intro j a hr
 refine sr ?_
 refine ov hr (vI 0) (by kernel_rfl) ?_; clear hr a; intro a hr
 refine ln ?_
 refine wp_seq ?_
 refine sr ?_
 refine ovs [3, 4] [pN, vB true] hr ⟨rfl, rfl⟩ (by kernel_rfl) ?_; clear hr a; intro a hr
 refine ln ?_
 refine cond_tt hr (b := true) rfl ?_
 refine sr ?_
 refine ov hr (vI 0) (by kernel_rfl) ?_; clear hr a; intro a hr
 refine ln ?_
 refine wp_ret ?_
 refine then_ret ?_
 refine end_ret1 (v := vI 0) rfl hr (by kernel_rfl) ?_
 replace H := ej1 H; subst H
 exact ⟨rfl, h⟩

/-- (*plunder/cells.Arena).Mark -/
def cells_Arena_Mark_nil : Option (Int) :=
  some 0
set_option maxRecDepth 100000 in
set_option maxHeartbeats 4000000 in
theorem cells_Arena_Mark_nil_ok {z w : World} {L : List HProp}  {r0 : Int} (H : cells_Arena_Mark_nil = some r0) (h : Fit z (sepL (L)) w)  :
    Calls Try.prog 98 #[pN] w fun e w => e = .returned (vI r0) ∧ Fit z (sepL (L)) w := by
 unfold cells_Arena_Mark_nil at H
 refine enter Try.func98 rfl 9 rfl rfl [(0, pN)] ⟨rfl, trivial⟩ ?_
 intro j a hr
 refine sr ?_
 refine ov hr (vI 0) (by kernel_rfl) ?_; clear hr a; intro a hr
 refine ln ?_
 refine wp_seq ?_
 refine sr ?_
 refine ovs [3, 4] [pN, vB true] hr ⟨rfl, rfl⟩ (by kernel_rfl) ?_; clear hr a; intro a hr
 refine ln ?_
 refine cond_tt hr (b := true) rfl ?_
 refine sr ?_
 refine ov hr (vI 0) (by kernel_rfl) ?_; clear hr a; intro a hr
 refine ln ?_
 refine wp_ret ?_
 refine then_ret ?_
 refine end_ret1 (v := vI 0) rfl hr (by kernel_rfl) ?_
 replace H := ej1 H; subst H
 exact ⟨rfl, h⟩

/-- (*plunder/cells.Arena).Cells -/
def cells_Arena_Cells_nil : Option ((List Int)) :=
  some ([] : List Int)
set_option maxRecDepth 100000 in
set_option maxHeartbeats 4000000 in
theorem cells_Arena_Cells_nil_ok {z w : World} {L : List HProp}  {r0 : List Int} (H : cells_Arena_Cells_nil = some r0) (h : Fit z (sepL (L)) w)  :
    Calls Try.prog 24 #[pN] w fun e w => ∃ car0_1 : Option Addr, e = .returned (.slice car0_1 r0.length r0.length) ∧ Fit z (sepL (ro2 car0_1 r0.length r0 :: L)) w := by
 unfold cells_Arena_Cells_nil at H
 refine enter Try.func24 rfl 19 rfl rfl [(0, pN)] ⟨rfl, trivial⟩ ?_
 intro j a hr
 refine sr ?_
 refine ov hr (.slice none 0 0) (by kernel_rfl) ?_; clear hr a; intro a hr
 refine ln ?_
 refine wp_seq ?_
 refine sr ?_
 refine ovs [4, 5] [pN, vB true] hr ⟨rfl, rfl⟩ (by kernel_rfl) ?_; clear hr a; intro a hr
 refine ln ?_
 refine cond_tt hr (b := true) rfl ?_
 refine sr ?_
 refine ov hr (.slice none 0 0) (by kernel_rfl) ?_; clear hr a; intro a hr
 refine ln ?_
 refine wp_ret ?_
 refine then_ret ?_
 refine end_ret1 (v := .slice none 0 0) rfl hr (by kernel_rfl) ?_
 replace h : Fit z (sepL (rowOf 2 1 encZ_i64 (.slice none 0 0) ([] : List Int) :: L)) _ := h.row_nil
 replace H := ej1 H; subst H
 exact ⟨none, rfl, h⟩

/-- (*plunder/cells.Arena).Log -/
def cells_Arena_Log_nil : Option ((List T_api_Access)) :=
  some ([] : List T_api_Access)
set_option maxRecDepth 100000 in
set_option maxHeartbeats 4000000 in
theorem cells_Arena_Log_nil_ok {z w : World} {L : List HProp}  {r0 : List T_api_Access} (H : cells_Arena_Log_nil = some r0) (h : Fit z (sepL (L)) w)  :
    Calls Try.prog 70 #[pN] w fun e w => ∃ car0_1 : Option Addr, e = .returned (.slice car0_1 r0.length r0.length) ∧ Fit z (sepL (ro90 car0_1 r0.length r0 :: L)) w := by
 unfold cells_Arena_Log_nil at H
 refine enter Try.func70 rfl 19 rfl rfl [(0, pN)] ⟨rfl, trivial⟩ ?_
 intro j a hr
 refine sr ?_
 refine ov hr (.slice none 0 0) (by kernel_rfl) ?_; clear hr a; intro a hr
 refine ln ?_
 refine wp_seq ?_
 refine sr ?_
 refine ovs [4, 5] [pN, vB true] hr ⟨rfl, rfl⟩ (by kernel_rfl) ?_; clear hr a; intro a hr
 refine ln ?_
 refine cond_tt hr (b := true) rfl ?_
 refine sr ?_
 refine ov hr (.slice none 0 0) (by kernel_rfl) ?_; clear hr a; intro a hr
 refine ln ?_
 refine wp_ret ?_
 refine then_ret ?_
 refine end_ret1 (v := .slice none 0 0) rfl hr (by kernel_rfl) ?_
 replace h : Fit z (sepL (rowOf 90 6 enc_T_api_Access (.slice none 0 0) ([] : List T_api_Access) :: L)) _ := h.row_nil
 replace H := ej1 H; subst H
 exact ⟨none, rfl, h⟩

/-- plunder/plunderlaw2.none -/
def plunderlaw2_none_nil : Option (Bool) :=
  ob0 (cells_Arena_Watch_nil true) (ob0 (cells_Arena_Who_nil 3) (ob2 (cells_Arena_Load_nil 0) (fun r3 r4 => ob1 (cells_Arena_Store_nil 0 1) (fun r6 => ob2 (cells_Arena_CAS_nil 0 0 1) (fun r8 r9 => ob2 (cells_Arena_Add_nil 0 1) (fun r11 r12 => ob2 (cells_Arena_Reserve_nil 1) (fun r14 r15 => ob2 (cells_Arena_Reserve_nil 0) (fun r17 r18 => jn0 ((if r3 = (0 : Int) then (if r8 = true then some (.inr false) else (if r11 = (0 : Int) then (if r14 = (0 : Int) then (if r17 = (0 : Int) then (if r4 = (20 : Int) then (if r6 = (20 : Int) then (if r9 = (20 : Int) then (if r12 = (20 : Int) then (if r15 = (22 : Int) then (if r18 = (21 : Int) then some (.inl ()) else some (.inr false)) else some (.inr false)) else some (.inr false)) else some (.inr false)) else some (.inr false)) else some (.inr false)) else some (.inr false)) else some (.inr false)) else some (.inr false))) else some (.inr false))) (ob1 (cells_Arena_Size_nil) (fun r33 => (if r33 = (0 : Int) then ob1 (cells_Arena_Mark_nil) (fun r36 => (if r36 = (0 : Int) then ob1 (cells_Arena_Cells_nil) (fun r39 => (if ((r39.length : Nat) : Int) = (0 : Int) then ob1 (cells_Arena_Log_nil) (fun r43 => some (((r43.length : Nat) : Int) == (0 : Int))) else some false)) else some false)) else some false)))))))))))
set_option maxRecDepth 100000 in
set_option maxHeartbeats 4000000 in
theorem plunderlaw2_none_nil_ok {z w : World} {L : List HProp}  {r0 : Bool} (H : plunderlaw2_none_nil = some r0) (h : Fit z (sepL (L)) w)  :
    Calls Try.prog 48 #[pN] w fun e w => e = .returned (vB r0) ∧ Fit z (sepL (L)) w := by
 unfold plunderlaw2_none_nil at H
 refine enter Try.func48 rfl 106 rfl rfl [(0, pN)] ⟨rfl, trivial⟩ ?_
 intro j a hr
 refine sr ?_
 refine ov hr (vB false) (by kernel_rfl) ?_; clear hr a; intro a hr
 refine ln ?_
 refine sr ?_
 replace H := bd0 H; obtain ⟨e1, H⟩ := H
 refine ov hr (pN) (by kernel_rfl) ?_; clear hr a; intro a hr
 have hc := cells_Arena_Watch_nil_ok (H := e1) (h := h)
 refine op_call (wn rfl) rfl rfl hr (f := 88) (args := #[pN, vB true]) (by kernel_rfl) hc ?_; clear hc h
 rintro _ w ⟨rfl, h⟩; refine ⟨_, rfl, ?_⟩
 clear hr a; intro a hr
 refine ln ?_
 refine sr ?_
 replace H := bd0 H; obtain ⟨e2, H⟩ := H
 refine ov hr (pN) (by kernel_rfl) ?_; clear hr a; intro a hr
 have hc := cells_Arena_Who_nil_ok (H := e2) (h := h)
 refine op_call (wn rfl) rfl rfl hr (f := 96) (args := #[pN, vI 3]) (by kernel_rfl) hc ?_; clear hc h
 rintro _ w ⟨rfl, h⟩; refine ⟨_, rfl, ?_⟩
 clear hr a; intro a hr
 refine ln ?_
 refine sr ?_
 replace H := bd2 H; obtain ⟨r3, r4, e5, H⟩ := H
 refine ov hr (pN) (by kernel_rfl) ?_; clear hr a; intro a hr
 have hc := cells_Arena_Load_nil_ok (H := e5) (h := h)
 refine op_call (wn rfl) rfl rfl hr (f := 66) (args := #[pN, vI 0]) (by kernel_rfl) hc ?_; clear hc h
 rintro _ w ⟨rfl, h⟩; refine ⟨_, rfl, ?_⟩
 clear hr a; intro a hr
 refine ovs [18, 21, 22, 3, 4] [.tuple #[vI r3, vI r4], vI r3, vI r4, vI r3, vI r4] hr ⟨rfl, rfl⟩ (by kernel_rfl) ?_; clear hr a; intro a hr
 refine ln ?_
 refine sr ?_
 replace H := bd1 H; obtain ⟨r6, e7, H⟩ := H
 refine ov hr (pN) (by kernel_rfl) ?_; clear hr a; intro a hr
 have hc := cells_Arena_Store_nil_ok (H := e7) (h := h)
 refine op_call (wn rfl) rfl rfl hr (f := 21) (args := #[pN, vI 0, vI 1]) (by kernel_rfl) hc ?_; clear hc h
 rintro _ w ⟨rfl, h⟩; refine ⟨_, rfl, ?_⟩
 clear hr a; intro a hr
 refine ov hr (vI r6) (by kernel_rfl) ?_; clear hr a; intro a hr
 refine ln ?_
 refine sr ?_
 replace H := bd2 H; obtain ⟨r8, r9, e10, H⟩ := H
 refine ov hr (pN) (by kernel_rfl) ?_; clear hr a; intro a hr
 have hc := cells_Arena_CAS_nil_ok (H := e10) (h := h)
 refine op_call (wn rfl) rfl rfl hr (f := 67) (args := #[pN, vI 0, vI 0, vI 1]) (by kernel_rfl) hc ?_; clear hc h
 rintro _ w ⟨rfl, h⟩; refine ⟨_, rfl, ?_⟩
 clear hr a; intro a hr
 refine ovs [25, 28, 29, 6, 7] [.tuple #[vB r8, vI r9], vB r8, vI r9, vB r8, vI r9] hr ⟨rfl, rfl⟩ (by kernel_rfl) ?_; clear hr a; intro a hr
 refine ln ?_
 refine sr ?_
 replace H := bd2 H; obtain ⟨r11, r12, e13, H⟩ := H
 refine ov hr (pN) (by kernel_rfl) ?_; clear hr a; intro a hr
 have hc := cells_Arena_Add_nil_ok (H := e13) (h := h)
 refine op_call (wn rfl) rfl rfl hr (f := 68) (args := #[pN, vI 0, vI 1]) (by kernel_rfl) hc ?_; clear hc h
 rintro _ w ⟨rfl, h⟩; refine ⟨_, rfl, ?_⟩
 clear hr a; intro a hr
 refine ovs [30, 33, 34, 8, 9] [.tuple #[vI r11, vI r12], vI r11, vI r12, vI r11, vI r12] hr ⟨rfl, rfl⟩ (by kernel_rfl) ?_; clear hr a; intro a hr
 refine ln ?_
 refine sr ?_
 replace H := bd2 H; obtain ⟨r14, r15, e16, H⟩ := H
 refine ov hr (pN) (by kernel_rfl) ?_; clear hr a; intro a hr
 have hc := cells_Arena_Reserve_nil_ok (H := e16) (h := h)
 refine op_call (wn rfl) rfl rfl hr (f := 20) (args := #[pN, vI 1]) (by kernel_rfl) hc ?_; clear hc h
 rintro _ w ⟨rfl, h⟩; refine ⟨_, rfl, ?_⟩
 clear hr a; intro a hr
 refine ovs [35, 38, 39, 10, 11] [.tuple #[vI r14, vI r15], vI r14, vI r15, vI r14, vI r15] hr ⟨rfl, rfl⟩ (by kernel_rfl) ?_; clear hr a; intro a hr
 refine ln ?_
 refine sr ?_
 replace H := bd2 H; obtain ⟨r17, r18, e19, H⟩ := H
 refine ov hr (pN) (by kernel_rfl) ?_; clear hr a; intro a hr
 have hc := cells_Arena_Reserve_nil_ok (H := e19) (h := h)
 refine op_call (wn rfl) rfl rfl hr (f := 20) (args := #[pN, vI 0]) (by kernel_rfl) hc ?_; clear hc h
 rintro _ w ⟨rfl, h⟩; refine ⟨_, rfl, ?_⟩
 clear hr a; intro a hr
 refine ovs [40, 43, 44, 12, 13] [.tuple #[vI r17, vI r18], vI r17, vI r18, vI r17, vI r18] hr ⟨rfl, rfl⟩ (by kernel_rfl) ?_; clear hr a; intro a hr
 refine ln ?_
 replace H := jd0 H; obtain ⟨o21, H, hK20⟩ := H
 refine cut_rule (β := Unit) (fun _ a w => .inl () = o21 ∧ ∃ j, Rep 106 (lk [(0, pN)] j) a ∧ Fit z (sepL (L)) w) ?_ ?_
 ·
  refine sr ?_
  refine ovs [45, 46, 47] [vI r3, vB (r3 != (0 : Int)), vB (r3 != (0 : Int))] hr ⟨rfl, rfl⟩ (by kernel_rfl) ?_; clear hr a; intro a hr
  by_cases c22 : r3 = (0 : Int)
  ·
   replace H := ifT c22 H
   refine opv (wgt hr (bne_eq_false_iff_eq.mpr c22)) hr (vB r8) (by kernel_rfl) ?_; clear hr a; intro a hr
   refine opv (wn rfl) hr (vB r8) (rp_f (b := (r3 != (0 : Int))) rfl (by kernel_rfl) (bne_eq_false_iff_eq.mpr c22) (by kernel_rfl)) ?_; clear hr a; intro a hr
   refine ov hr (vB r8) (by kernel_rfl) ?_; clear hr a; intro a hr
   by_cases c23 : r8 = true
   ·
    replace H := ifT c23 H
    refine offg (wgt hr (c23)) hr ?_; clear hr a; intro a hr
    refine offg (wgt hr (c23)) hr ?_; clear hr a; intro a hr
    refine opv (wn rfl) hr (vB true) (rp_t (b := r8) rfl (by kernel_rfl) (c23) (by kernel_rfl)) ?_; clear hr a; intro a hr
    refine ov hr (vB true) (by kernel_rfl) ?_; clear hr a; intro a hr
    refine offg (wgt hr (c := true) rfl) hr ?_; clear hr a; intro a hr
    refine offg (wgt hr (c := true) rfl) hr ?_; clear hr a; intro a hr
    refine ovs [57, 58] [vB true, vB true] hr ⟨rfl, rfl⟩ (by kernel_rfl) ?_; clear hr a; intro a hr
    refine offg (wgt hr (c := true) rfl) hr ?_; clear hr a; intro a hr
    refine offg (wgt hr (c := true) rfl) hr ?_; clear hr a; intro a hr
    refine ovs [61, 62] [vB true, vB true] hr ⟨rfl, rfl⟩ (by kernel_rfl) ?_; clear hr a; intro a hr
    refine offg (wgt hr (c := true) rfl) hr ?_; clear hr a; intro a hr
    refine offg (wgt hr (c := true) rfl) hr ?_; clear hr a; intro a hr
    refine ovs [65, 66] [vB true, vB true] hr ⟨rfl, rfl⟩ (by kernel_rfl) ?_; clear hr a; intro a hr
    refine offg (wgt hr (c := true) rfl) hr ?_; clear hr a; intro a hr
    refine offg (wgt hr (c := true) rfl) hr ?_; clear hr a; intro a hr
    refine ovs [69, 70] [vB true, vB true] hr ⟨rfl, rfl⟩ (by kernel_rfl) ?_; clear hr a; intro a hr
    refine offg (wgt hr (c := true) rfl) hr ?_; clear hr a; intro a hr
    refine offg (wgt hr (c := true) rfl) hr ?_; clear hr a; intro a hr
    refine ovs [73, 74] [vB true, vB true] hr ⟨rfl, rfl⟩ (by kernel_rfl) ?_; clear hr a; intro a hr
    refine offg (wgt hr (c := true) rfl) hr ?_; clear hr a; intro a hr
    refine offg (wgt hr (c := true) rfl) hr ?_; clear hr a; intro a hr
    refine ovs [77, 78] [vB true, vB true] hr ⟨rfl, rfl⟩ (by kernel_rfl) ?_; clear hr a; intro a hr
    refine offg (wgt hr (c := true) rfl) hr ?_; clear hr a; intro a hr
    refine offg (wgt hr (c := true) rfl) hr ?_; clear hr a; intro a hr
    refine ovs [81, 82] [vB true, vB true] hr ⟨rfl, rfl⟩ (by kernel_rfl) ?_; clear hr a; intro a hr
    refine offg (wgt hr (c := true) rfl) hr ?_; clear hr a; intro a hr
    refine offg (wgt hr (c := true) rfl) hr ?_; clear hr a; intro a hr
    refine ov hr (vB true) (by kernel_rfl) ?_; clear hr a; intro a hr
    refine ln ?_
    refine cond_tt hr (b := true) rfl ?_
    refine sr ?_
    refine ov hr (vB false) (by kernel_rfl) ?_; clear hr a; intro a hr
    refine ln ?_
    refine wp_ret ?_
    refine then_ret ?_
    refine end_ret1 (v := vB false) rfl hr (by kernel_rfl) ?_
    replace H := jx0 H hK20
    replace H := ej1 H; subst H
    exact ⟨rfl, h⟩
   ·
    replace H := ifF c23 H
    refine opv (wgt hr (bF c23)) hr (vI r11) (by kernel_rfl) ?_; clear hr a; intro a hr
    refine opv (wgt hr (bF c23)) hr (vB (r11 != (0 : Int))) (by kernel_rfl) ?_; clear hr a; intro a hr
    refine opv (wn rfl) hr (vB (r11 != (0 : Int))) (rp_f (b := r8) rfl (by kernel_rfl) (bF c23) (by kernel_rfl)) ?_; clear hr a; intro a hr
    refine ov hr (vB (r11 != (0 : Int))) (by kernel_rfl) ?_; clear hr a; intro a hr
    by_cases c24 : r11 = (0 : Int)
    ·
     replace H := ifT c24 H
     refine opv (wgt hr (bne_eq_false_iff_eq.mpr c24)) hr (vI r14) (by kernel_rfl) ?_; clear hr a; intro a hr
     refine opv (wgt hr (bne_eq_false_iff_eq.mpr c24)) hr (vB (r14 != (0 : Int))) (by kernel_rfl) ?_; clear hr a; intro a hr
     refine opv (wn rfl) hr (vB (r14 != (0 : Int))) (rp_f (b := (r11 != (0 : Int))) rfl (by kernel_rfl) (bne_eq_false_iff_eq.mpr c24) (by kernel_rfl)) ?_; clear hr a; intro a hr
     refine ov hr (vB (r14 != (0 : Int))) (by kernel_rfl) ?_; clear hr a; intro a hr
     by_cases c25 : r14 = (0 : Int)
     ·
      replace H := ifT c25 H
      refine opv (wgt hr (bne_eq_false_iff_eq.mpr c25)) hr (vI r17) (by kernel_rfl) ?_; clear hr a; intro a hr
      refine opv (wgt hr (bne_eq_false_iff_eq.mpr c25)) hr (vB (r17 != (0 : Int))) (by kernel_rfl) ?_; clear hr a; intro a hr
      refine opv (wn rfl) hr (vB (r17 != (0 : Int))) (rp_f (b := (r14 != (0 : Int))) rfl (by kernel_rfl) (bne_eq_false_iff_eq.mpr c25) (by kernel_rfl)) ?_; clear hr a; intro a hr
      refine ov hr (vB (r17 != (0 : Int))) (by kernel_rfl) ?_; clear hr a; intro a hr
      by_cases c26 : r17 = (0 : Int)
      ·
       replace H := ifT c26 H
       refine opv (wgt hr (bne_eq_false_iff_eq.mpr c26)) hr (vI r4) (by kernel_rfl) ?_; clear hr a; intro a hr
       refine opv (wgt hr (bne_eq_false_iff_eq.mpr c26)) hr (vB (r4 != (20 : Int))) (by kernel_rfl) ?_; clear hr a; intro a hr
       refine opv (wn rfl) hr (vB (r4 != (20 : Int))) (rp_f (b := (r17 != (0 : Int))) rfl (by kernel_rfl) (bne_eq_false_iff_eq.mpr c26) (by kernel_rfl)) ?_; clear hr a; intro a hr
       refine ov hr (vB (r4 != (20 : Int))) (by kernel_rfl) ?_; clear hr a; intro a hr
       by_cases c27 : r4 = (20 : Int)
       ·
        replace H := ifT c27 H
        refine opv (wgt hr (bne_eq_false_iff_eq.mpr c27)) hr (vI r6) (by kernel_rfl) ?_; clear hr a; intro a hr
        refine opv (wgt hr (bne_eq_false_iff_eq.mpr c27)) hr (vB (r6 != (20 : Int))) (by kernel_rfl) ?_; clear hr a; intro a hr
        refine opv (wn rfl) hr (vB (r6 != (20 : Int))) (rp_f (b := (r4 != (20 : Int))) rfl (by kernel_rfl) (bne_eq_false_iff_eq.mpr c27) (by kernel_rfl)) ?_; clear hr a; intro a hr
        refine ov hr (vB (r6 != (20 : Int))) (by kernel_rfl) ?_; clear hr a; intro a hr
        by_cases c28 : r6 = (20 : Int)
        ·
         replace H := ifT c28 H
         refine opv (wgt hr (bne_eq_false_iff_eq.mpr c28)) hr (vI r9) (by kernel_rfl) ?_; clear hr a; intro a hr
         refine opv (wgt hr (bne_eq_false_iff_eq.mpr c28)) hr (vB (r9 != (20 : Int))) (by kernel_rfl) ?_; clear hr a; intro a hr
         refine opv (wn rfl) hr (vB (r9 != (20 : Int))) (rp_f (b := (r6 != (20 : Int))) rfl (by kernel_rfl) (bne_eq_false_iff_eq.mpr c28) (by kernel_rfl)) ?_; clear hr a; intro a hr
         refine ov hr (vB (r9 != (20 : Int))) (by kernel_rfl) ?_; clear hr a; intro a hr
         by_cases c29 : r9 = (20 : Int)
         ·
          replace H := ifT c29 H
          refine opv (wgt hr (bne_eq_false_iff_eq.mpr c29)) hr (vI r12) (by kernel_rfl) ?_; clear hr a; intro a hr
          refine opv (wgt hr (bne_eq_false_iff_eq.mpr c29)) hr (vB (r12 != (20 : Int))) (by kernel_rfl) ?_; clear hr a; intro a hr
          refine opv (wn rfl) hr (vB (r12 != (20 : Int))) (rp_f (b := (r9 != (20 : Int))) rfl (by kernel_rfl) (bne_eq_false_iff_eq.mpr c29) (by kernel_rfl)) ?_; clear hr a; intro a hr
          refine ov hr (vB (r12 != (20 : Int))) (by kernel_rfl) ?_; clear hr a; intro a hr
          by_cases c30 : r12 = (20 : Int)
          ·
           replace H := ifT c30 H
           refine opv (wgt hr (bne_eq_false_iff_eq.mpr c30)) hr (vI r15) (by kernel_rfl) ?_; clear hr a; intro a hr
           refine opv (wgt hr (bne_eq_false_iff_eq.mpr c30)) hr (vB (r15 != (22 : Int))) (by kernel_rfl) ?_; clear hr a; intro a hr
           refine opv (wn rfl) hr (vB (r15 != (22 : Int))) (rp_f (b := (r12 != (20 : Int))) rfl (by kernel_rfl) (bne_eq_false_iff_eq.mpr c30) (by kernel_rfl)) ?_; clear hr a; intro a hr
           refine ov hr (vB (r15 != (22 : Int))) (by kernel_rfl) ?_; clear hr a; intro a hr
           by_cases c31 : r15 = (22 : Int)
           ·
            replace H := ifT c31 H
            refine opv (wgt hr (bne_eq_false_iff_eq.mpr c31)) hr (vI r18) (by kernel_rfl) ?_; clear hr a; intro a hr
            refine opv (wgt hr (bne_eq_false_iff_eq.mpr c31)) hr (vB (r18 != (21 : Int))) (by kernel_rfl) ?_; clear hr a; intro a hr
            refine opv (wn rfl) hr (vB (r18 != (21 : Int))) (rp_f (b := (r15 != (22 : Int))) rfl (by kernel_rfl) (bne_eq_false_iff_eq.mpr c31) (by kernel_rfl)) ?_; clear hr a; intro a hr
            refine ln ?_
            by_cases c32 : r18 = (21 : Int)
            ·
             replace H := ifT c32 H
             refine cond_ff hr (b := (r18 != (21 : Int))) (bne_eq_false_iff_eq.mpr c32) ?_
             refine wp_skip ?_
             refine then_normal ?_
             replace hr := hr.fold2 [(0, pN)] (by kernel_rfl); obtain ⟨j, hr⟩ := hr
             exact ⟨(), sinj H, j, hr, h⟩
            ·
             replace H := ifF c32 H
             refine cond_tt hr (b := (r18 != (21 : Int))) (bne_iff_ne.mpr c32) ?_
             refine sr ?_
             refine ov hr (vB false) (by kernel_rfl) ?_; clear hr a; intro a hr
             refine ln ?_
             refine wp_ret ?_
             refine then_ret ?_
             refine end_ret1 (v := vB false) rfl hr (by kernel_rfl) ?_
             replace H := jx0 H hK20
             replace H := ej1 H; subst H
             exact ⟨rfl, h⟩
           ·
            replace H := ifF c31 H
            refine offg (wgt hr (bne_iff_ne.mpr c31)) hr ?_; clear hr a; intro a hr
            refine offg (wgt hr (bne_iff_ne.mpr c31)) hr ?_; clear hr a; intro a hr
            refine opv (wn rfl) hr (vB true) (rp_t (b := (r15 != (22 : Int))) rfl (by kernel_rfl) (bne_iff_ne.mpr c31) (by kernel_rfl)) ?_; clear hr a; intro a hr
            refine ln ?_
            refine cond_tt hr (b := true) rfl ?_
            refine sr ?_
            refine ov hr (vB false) (by kernel_rfl) ?_; clear hr a; intro a hr
            refine ln ?_
            refine wp_ret ?_
            refine then_ret ?_
            refine end_ret1 (v := vB false) rfl hr (by kernel_rfl) ?_
            replace H := jx0 H hK20
            replace H := ej1 H; subst H
            exact ⟨rfl, h⟩
          ·
           replace H := ifF c30 H
           refine offg (wgt hr (bne_iff_ne.mpr c30)) hr ?_; clear hr a; intro a hr
           refine offg (wgt hr (bne_iff_ne.mpr c30)) hr ?_; clear hr a; intro a hr
           refine opv (wn rfl) hr (vB true) (rp_t (b := (r12 != (20 : Int))) rfl (by kernel_rfl) (bne_iff_ne.mpr c30) (by kernel_rfl)) ?_; clear hr a; intro a hr
           refine ov hr (vB true) (by kernel_rfl) ?_; clear hr a; intro a hr
           refine offg (wgt hr (c := true) rfl) hr ?_; clear hr a; intro a hr
           refine offg (wgt hr (c := true) rfl) hr ?_; clear hr a; intro a hr
           refine ov hr (vB true) (by kernel_rfl) ?_; clear hr a; intro a hr
           refine ln ?_
           refine cond_tt hr (b := true) rfl ?_
           refine sr ?_
           refine ov hr (vB false) (by kernel_rfl) ?_; clear hr a; intro a hr
           refine ln ?_
           refine wp_ret ?_
           refine then_ret ?_
           refine end_ret1 (v := vB false) rfl hr (by kernel_rfl) ?_
           replace H := jx0 H hK20
           replace H := ej1 H; subst H
           exact ⟨rfl, h⟩
         ·
          replace H := ifF c29 H
          refine offg (wgt hr (bne_iff_ne.mpr c29)) hr ?_; clear hr a; intro a hr
          refine offg (wgt hr (bne_iff_ne.mpr c29)) hr ?_; clear hr a; intro a hr
          refine opv (wn rfl) hr (vB true) (rp_t (b := (r9 != (20 : Int))) rfl (by kernel_rfl) (bne_iff_ne.mpr c29) (by kernel_rfl)) ?_; clear hr a; intro a hr
          refine ov hr (vB true) (by kernel_rfl) ?_; clear hr a; intro a hr
          refine offg (wgt hr (c := true) rfl) hr ?_; clear hr a; intro a hr
          refine offg (wgt hr (c := true) rfl) hr ?_; clear hr a; intro a hr
          refine ovs [81, 82] [vB true, vB true] hr ⟨rfl, rfl⟩ (by kernel_rfl) ?_; clear hr a; intro a hr
          refine offg (wgt hr (c := true) rfl) hr ?_; clear hr a; intro a hr
          refine offg (wgt hr (c := true) rfl) hr ?_; clear hr a; intro a hr
          refine ov hr (vB true) (by kernel_rfl) ?_; clear hr a; intro a hr
          refine ln ?_
          refine cond_tt hr (b := true) rfl ?_
          refine sr ?_
          refine ov hr (vB false) (by kernel_rfl) ?_; clear hr a; intro a hr
          refine ln ?_
          refine wp_ret ?_
          refine then_ret ?_
          refine end_ret1 (v := vB false) rfl hr (by kernel_rfl) ?_
          replace H := jx0 H hK20
          replace H := ej1 H; subst H
          exact ⟨rfl, h⟩
        ·
         replace H := ifF c28 H
         refine offg (wgt hr (bne_iff_ne.mpr c28)) hr ?_; clear hr a; intro a hr
         refine offg (wgt hr (bne_iff_ne.mpr c28)) hr ?_; clear hr a; intro a hr
         refine opv (wn rfl) hr (vB true) (rp_t (b := (r6 != (20 : Int))) rfl (by kernel_rfl) (bne_iff_ne.mpr c28) (by kernel_rfl)) ?_; clear hr a; intro a hr
         refine ov hr (vB true) (by kernel_rfl) ?_; clear hr a; intro a hr
         refine offg (wgt hr (c := true) rfl) hr ?_; clear hr a; intro a hr
         refine offg (wgt hr (c := true) rfl) hr ?_; clear hr a; intro a hr
         refine ovs [77, 78] [vB true, vB true] hr ⟨rfl, rfl⟩ (by kernel_rfl) ?_; clear hr a; intro a hr
         refine offg (wgt hr (c := true) rfl) hr ?_; clear hr a; intro a hr
         refine offg (wgt hr (c := true) rfl) hr ?_; clear hr a; intro a hr
         refine ovs [81, 82] [vB true, vB true] hr ⟨rfl, rfl⟩ (by kernel_rfl) ?_; clear hr a; intro a hr
         refine offg (wgt hr (c := true) rfl) hr ?_; clear hr a; intro a hr
         refine offg (wgt hr (c := true) rfl) hr ?_; clear hr a; intro a hr
         refine ov hr (vB true) (by kernel_rfl) ?_; clear hr a; intro a hr
         refine ln ?_
         refine cond_tt hr (b := true) rfl ?_
         refine sr ?_
         refine ov hr (vB false) (by kernel_rfl) ?_; clear hr a; intro a hr
         refine ln ?_
         refine wp_ret ?_
         refine then_ret ?_
         refine end_ret1 (v := vB false) rfl hr (by kernel_rfl) ?_
         replace H := jx0 H hK20
         replace H := ej1 H; subst H
         exact ⟨rfl, h⟩
       ·
        replace H := ifF c27 H
        refine offg (wgt hr (bne_iff_ne.mpr c27)) hr ?_; clear hr a; intro a hr
        refine offg (wgt hr (bne_iff_ne.mpr c27)) hr ?_; clear hr a; intro a hr
        refine opv (wn rfl) hr (vB true) (rp_t (b := (r4 != (20 : Int))) rfl (by kernel_rfl) (bne_iff_ne.mpr c27) (by kernel_rfl)) ?_; clear hr a; intro a hr
        refine ov hr (vB true) (by kernel_rfl) ?_; clear hr a; intro a hr
        refine offg (wgt hr (c := true) rfl) hr ?_; clear hr a; intro a hr
        refine offg (wgt hr (c := true) rfl) hr ?_; clear hr a; intro a hr
        refine ovs [73, 74] [vB true, vB true] hr ⟨rfl, rfl⟩ (by kernel_rfl) ?_; clear hr a; intro a hr
        refine offg (wgt hr (c := true) rfl) hr ?_; clear hr a; intro a hr
        refine offg (wgt hr (c := true) rfl) hr ?_; clear hr a; intro a hr
        refine ovs [77, 78] [vB true, vB true] hr ⟨rfl, rfl⟩ (by kernel_rfl) ?_; clear hr a; intro a hr
        refine offg (wgt hr (c := true) rfl) hr ?_; clear hr a; intro a hr
        refine offg (wgt hr (c := true) rfl) hr ?_; clear hr a; intro a hr
        refine ovs [81, 82] [vB true, vB true] hr ⟨rfl, rfl⟩ (by kernel_rfl) ?_; clear hr a; intro a hr
        refine offg (wgt hr (c := true) rfl) hr ?_; clear hr a; intro a hr
        refine offg (wgt hr (c := true) rfl) hr ?_; clear hr a; intro a hr
        refine ov hr (vB true) (by kernel_rfl) ?_; clear hr a; intro a hr
        refine ln ?_
        refine cond_tt hr (b := true) rfl ?_
        refine sr ?_
        refine ov hr (vB false) (by kernel_rfl) ?_; clear hr a; intro a hr
        refine ln ?_
        refine wp_ret ?_
        refine then_ret ?_
        refine end_ret1 (v := vB false) rfl hr (by kernel_rfl) ?_
        replace H := jx0 H hK20
        replace H := ej1 H; subst H
        exact ⟨rfl, h⟩
      ·
       replace H := ifF c26 H
       refine offg (wgt hr (bne_iff_ne.mpr c26)) hr ?_; clear hr a; intro a hr
       refine offg (wgt hr (bne_iff_ne.mpr c26)) hr ?_; clear hr a; intro a hr
       refine opv (wn rfl) hr (vB true) (rp_t (b := (r17 != (0 : Int))) rfl (by kernel_rfl) (bne_iff_ne.mpr c26) (by kernel_rfl)) ?_; clear hr a; intro a hr
       refine ov hr (vB true) (by kernel_rfl) ?_; clear hr a; intro a hr
       refine offg (wgt hr (c := true) rfl) hr ?_; clear hr a; intro a hr
       refine offg (wgt hr (c := true) rfl) hr ?_; clear hr a; intro a hr
       refine ovs [69, 70] [vB true, vB true] hr ⟨rfl, rfl⟩ (by kernel_rfl) ?_; clear hr a; intro a hr
       refine offg (wgt hr (c := true) rfl) hr ?_; clear hr a; intro a hr
       refine offg (wgt hr (c := true) rfl) hr ?_; clear hr a; intro a hr
       refine ovs [73, 74] [vB true, vB true] hr ⟨rfl, rfl⟩ (by kernel_rfl) ?_; clear hr a; intro a hr
       refine offg (wgt hr (c := true) rfl) hr ?_; clear hr a; intro a hr
       refine offg (wgt hr (c := true) rfl) hr ?_; clear hr a; intro a hr
       refine ovs [77, 78] [vB true, vB true] hr ⟨rfl, rfl⟩ (by kernel_rfl) ?_; clear hr a; intro a hr
       refine offg (wgt hr (c := true) rfl) hr ?_; clear hr a; intro a hr
       refine offg (wgt hr (c := true) rfl) hr ?_; clear hr a; intro a hr
       refine ovs [81, 82] [vB true, vB true] hr ⟨rfl, rfl⟩ (by kernel_rfl) ?_; clear hr a; intro a hr
       refine offg (wgt hr (c := true) rfl) hr ?_; clear hr a; intro a hr
       refine offg (wgt hr (c := true) rfl) hr ?_; clear hr a; intro a hr
       refine ov hr (vB true) (by kernel_rfl) ?_; clear hr a; intro a hr
       refine ln ?_
       refine cond_tt hr (b := true) rfl ?_
       refine sr ?_
       refine ov hr (vB false) (by kernel_rfl) ?_; clear hr a; intro a hr
       refine ln ?_
       refine wp_ret ?_
       refine then_ret ?_
       refine end_ret1 (v := vB false) rfl hr (by kernel_rfl) ?_
       replace H := jx0 H hK20
       replace H := ej1 H; subst H
       exact ⟨rfl, h⟩
     ·
      replace H := ifF c25 H
      refine offg (wgt hr (bne_iff_ne.mpr c25)) hr ?_; clear hr a; intro a hr
      refine offg (wgt hr (bne_iff_ne.mpr c25)) hr ?_; clear hr a; intro a hr
      refine opv (wn rfl) hr (vB true) (rp_t (b := (r14 != (0 : Int))) rfl (by kernel_rfl) (bne_iff_ne.mpr c25) (by kernel_rfl)) ?_; clear hr a; intro a hr
      refine ov hr (vB true) (by kernel_rfl) ?_; clear hr a; intro a hr
      refine offg (wgt hr (c := true) rfl) hr ?_; clear hr a; intro a hr
      refine offg (wgt hr (c := true) rfl) hr ?_; clear hr a; intro a hr
      refine ovs [65, 66] [vB true, vB true] hr ⟨rfl, rfl⟩ (by kernel_rfl) ?_; clear hr a; intro a hr
      refine offg (wgt hr (c := true) rfl) hr ?_; clear hr a; intro a hr
      refine offg (wgt hr (c := true) rfl) hr ?_; clear hr a; intro a hr
      refine ovs [69, 70] [vB true, vB true] hr ⟨rfl, rfl⟩ (by kernel_rfl) ?_; clear hr a; intro a hr
      refine offg (wgt hr (c := true) rfl) hr ?_; clear hr a; intro a hr
      refine offg (wgt hr (c := true) rfl) hr ?_; clear hr a; intro a hr
      refine ovs [73, 74] [vB true, vB true] hr ⟨rfl, rfl⟩ (by kernel_rfl) ?_; clear hr a; intro a hr
      refine offg (wgt hr (c := true) rfl) hr ?_; clear hr a; intro a hr
      refine offg (wgt hr (c := true) rfl) hr ?_; clear hr a; intro a hr
      refine ovs [77, 78] [vB true, vB true] hr ⟨rfl, rfl⟩ (by kernel_rfl) ?_; clear hr a; intro a hr
      refine offg (wgt hr (c := true) rfl) hr ?_; clear hr a; intro a hr
      refine offg (wgt hr (c := true) rfl) hr ?_; clear hr a; intro a hr
      refine ovs [81, 82] [vB true, vB true] hr ⟨rfl, rfl⟩ (by kernel_rfl) ?_; clear hr a; intro a hr
      refine offg (wgt hr (c := true) rfl) hr ?_; clear hr a; intro a hr
      refine offg (wgt hr (c := true) rfl) hr ?_; clear hr a; intro a hr
      refine ov hr (vB true) (by kernel_rfl) ?_; clear hr a; intro a hr
      refine ln ?_
      refine cond_tt hr (b := true) rfl ?_
      refine sr ?_
      refine ov hr (vB false) (by kernel_rfl) ?_; clear hr a; intro a hr
      refine ln ?_
      refine wp_ret ?_
      refine then_ret ?_
      refine end_ret1 (v := vB false) rfl hr (by kernel_rfl) ?_
      replace H := jx0 H hK20
      replace H := ej1 H; subst H
      exact ⟨rfl, h⟩
    ·
     replace H := ifF c24 H
     refine offg (wgt hr (bne_iff_ne.mpr c24)) hr ?_; clear hr a; intro a hr
     refine offg (wgt hr (bne_iff_ne.mpr c24)) hr ?_; clear hr a; intro a hr
     refine opv (wn rfl) hr (vB true) (rp_t (b := (r11 != (0 : Int))) rfl (by kernel_rfl) (bne_iff_ne.mpr c24) (by kernel_rfl)) ?_; clear hr a; intro a hr
     refine ov hr (vB true) (by kernel_rfl) ?_; clear hr a; intro a hr
     refine offg (wgt hr (c := true) rfl) hr ?_; clear hr a; intro a hr
     refine offg (wgt hr (c := true) rfl) hr ?_; clear hr a; intro a hr
     refine ovs [61, 62] [vB true, vB true] hr ⟨rfl, rfl⟩ (by kernel_rfl) ?_; clear hr a; intro a hr
     refine offg (wgt hr (c := true) rfl) hr ?_; clear hr a; intro a hr
     refine offg (wgt hr (c := true) rfl) hr ?_; clear hr a; intro a hr
     refine ovs [65, 66] [vB true, vB true] hr ⟨rfl, rfl⟩ (by kernel_rfl) ?_; clear hr a; intro a hr
     refine offg (wgt hr (c := true) rfl) hr ?_; clear hr a; intro a hr
     refine offg (wgt hr (c := true) rfl) hr ?_; clear hr a; intro a hr
     refine ovs [69, 70] [vB true, vB true] hr ⟨rfl, rfl⟩ (by kernel_rfl) ?_; clear hr a; intro a hr
     refine offg (wgt hr (c := true) rfl) hr ?_; clear hr a; intro a hr
     refine offg (wgt hr (c := true) rfl) hr ?_; clear hr a; intro a hr
     refine ovs [73, 74] [vB true, vB true] hr ⟨rfl, rfl⟩ (by kernel_rfl) ?_; clear hr a; intro a hr
     refine offg (wgt hr (c := true) rfl) hr ?_; clear hr a; intro a hr
     refine offg (wgt hr (c := true) rfl) hr ?_; clear hr a; intro a hr
     refine ovs [77, 78] [vB true, vB true] hr ⟨rfl, rfl⟩ (by kernel_rfl) ?_; clear hr a; intro a hr
     refine offg (wgt hr (c := true) rfl) hr ?_; clear hr a; intro a hr
     refine offg (wgt hr (c := true) rfl) hr ?_; clear hr a; intro a hr
     refine ovs [81, 82] [vB true, vB true] hr ⟨rfl, rfl⟩ (by kernel_rfl) ?_; clear hr a; intro a hr
     refine offg (wgt hr (c := true) rfl) hr ?_; clear hr a; intro a hr
     refine offg (wgt hr (c := true) rfl) hr ?_; clear hr a; intro a hr
     refine ov hr (vB true) (by kernel_rfl) ?_; clear hr a; intro a hr
     refine ln ?_
     refine cond_tt hr (b := true) rfl ?_
     refine sr ?_
     refine ov hr (vB false) (by kernel_rfl) ?_; clear hr a; intro a hr
     refine ln ?_
     refine wp_ret ?_
     refine then_ret ?_
     refine end_ret1 (v := vB false) rfl hr (by kernel_rfl) ?_
     replace H := jx0 H hK20
     replace H := ej1 H; subst H
     exact ⟨rfl, h⟩
  ·
   replace H := ifF c22 H
   refine offg (wgt hr (bne_iff_ne.mpr c22)) hr ?_; clear hr a; intro a hr
   refine opv (wn rfl) hr (vB true) (rp_t (b := (r3 != (0 : Int))) rfl (by kernel_rfl) (bne_iff_ne.mpr c22) (by kernel_rfl)) ?_; clear hr a; intro a hr
   refine ov hr (vB true) (by kernel_rfl) ?_; clear hr a; intro a hr
   refine offg (wgt hr (c := true) rfl) hr ?_; clear hr a; intro a hr
   refine offg (wgt hr (c := true) rfl) hr ?_; clear hr a; intro a hr
   refine ovs [53, 54] [vB true, vB true] hr ⟨rfl, rfl⟩ (by kernel_rfl) ?_; clear hr a; intro a hr
   refine offg (wgt hr (c := true) rfl) hr ?_; clear hr a; intro a hr
   refine offg (wgt hr (c := true) rfl) hr ?_; clear hr a; intro a hr
   refine ovs [57, 58] [vB true, vB true] hr ⟨rfl, rfl⟩ (by kernel_rfl) ?_; clear hr a; intro a hr
   refine offg (wgt hr (c := true) rfl) hr ?_; clear hr a; intro a hr
   refine offg (wgt hr (c := true) rfl) hr ?_; clear hr a; intro a hr
   refine ovs [61, 62] [vB true, vB true] hr ⟨rfl, rfl⟩ (by kernel_rfl) ?_; clear hr a; intro a hr
   refine offg (wgt hr (c := true) rfl) hr ?_; clear hr a; intro a hr
   refine offg (wgt hr (c := true) rfl) hr ?_; clear hr a; intro a hr
   refine ovs [65, 66] [vB true, vB true] hr ⟨rfl, rfl⟩ (by kernel_rfl) ?_; clear hr a; intro a hr
   refine offg (wgt hr (c := true) rfl) hr ?_; clear hr a; intro a hr
   refine offg (wgt hr (c := true) rfl) hr ?_; clear hr a; intro a hr
   refine ovs [69, 70] [vB true, vB true] hr ⟨rfl, rfl⟩ (by kernel_rfl) ?_; clear hr a; intro a hr
   refine offg (wgt hr (c := true) rfl) hr ?_; clear hr a; intro a hr
   refine offg (wgt hr (c := true) rfl) hr ?_; clear hr a; intro a hr
   refine ovs [73, 74] [vB true, vB true] hr ⟨rfl, rfl⟩ (by kernel_rfl) ?_; clear hr a; intro a hr
   refine offg (wgt hr (c := true) rfl) hr ?_; clear hr a; intro a hr
   refine offg (wgt hr (c := true) rfl) hr ?_; clear hr a; intro a hr
   refine ovs [77, 78] [vB true, vB true] hr ⟨rfl, rfl⟩ (by kernel_rfl) ?_; clear hr a; intro a hr
   refine offg (wgt hr (c := true) rfl) hr ?_; clear hr a; intro a hr
   refine offg (wgt hr (c := true) rfl) hr ?_; clear hr a; intro a hr
   refine ovs [81, 82] [vB true, vB true] hr ⟨rfl, rfl⟩ (by kernel_rfl) ?_; clear hr a; intro a hr
   refine offg (wgt hr (c := true) rfl) hr ?_; clear hr a; intro a hr
   refine offg (wgt hr (c := true) rfl) hr ?_; clear hr a; intro a hr
   refine ov hr (vB true) (by kernel_rfl) ?_; clear hr a; intro a hr
   refine ln ?_
   refine cond_tt hr (b := true) rfl ?_
   refine sr ?_
   refine ov hr (vB false) (by kernel_rfl) ?_; clear hr a; intro a hr
   refine ln ?_
   refine wp_ret ?_
   refine then_ret ?_
   refine end_ret1 (v := vB false) rfl hr (by kernel_rfl) ?_
   replace H := jx0 H hK20
   replace H := ej1 H; subst H
   exact ⟨rfl, h⟩
 clear h hr a; rintro _ a w ⟨rfl, j, hr, h⟩
 replace H := jk0 hK20
 refine sr ?_
 replace H := bd1 H; obtain ⟨r33, e34, H⟩ := H
 refine ov hr (pN) (by kernel_rfl) ?_; clear hr a; intro a hr
 have hc := cells_Arena_Size_nil_ok (H := e34) (h := h)
 refine op_call (wn rfl) rfl rfl hr (f := 97) (args := #[pN]) (by kernel_rfl) hc ?_; clear hc h
 rintro _ w ⟨rfl, h⟩; refine ⟨_, rfl, ?_⟩
 clear hr a; intro a hr
 refine ovs [88, 89] [vB (r33 == (0 : Int)), vB (r33 == (0 : Int))] hr ⟨rfl, rfl⟩ (by kernel_rfl) ?_; clear hr a; intro a hr
 by_cases c35 : r33 = (0 : Int)
 ·
  replace H := ifT c35 H
  refine opv (wgt hr (beq_iff_eq.mpr c35)) hr (pN) (by kernel_rfl) ?_; clear hr a; intro a hr
  replace H := bd1 H; obtain ⟨r36, e37, H⟩ := H
  have hc := cells_Arena_Mark_nil_ok (H := e37) (h := h)
  refine op_call (wgt hr (beq_iff_eq.mpr c35)) rfl rfl hr (f := 98) (args := #[pN]) (by kernel_rfl) hc ?_; clear hc h
  rintro _ w ⟨rfl, h⟩; refine ⟨_, rfl, ?_⟩
  clear hr a; intro a hr
  refine opv (wgt hr (beq_iff_eq.mpr c35)) hr (vB (r36 == (0 : Int))) (by kernel_rfl) ?_; clear hr a; intro a hr
  refine opv (wn rfl) hr (vB (r36 == (0 : Int))) (rp_t (b := (r33 == (0 : Int))) rfl (by kernel_rfl) (beq_iff_eq.mpr c35) (by kernel_rfl)) ?_; clear hr a; intro a hr
  refine ov hr (vB (r36 == (0 : Int))) (by kernel_rfl) ?_; clear hr a; intro a hr
  by_cases c38 : r36 = (0 : Int)
  ·
   replace H := ifT c38 H
   refine opv (wgt hr (beq_iff_eq.mpr c38)) hr (pN) (by kernel_rfl) ?_; clear hr a; intro a hr
   replace H := bd1 H; obtain ⟨r39, e40, H⟩ := H
   have hc := cells_Arena_Cells_nil_ok (H := e40) (h := h)
   refine op_call (wgt hr (beq_iff_eq.mpr c38)) rfl rfl hr (f := 24) (args := #[pN]) (by kernel_rfl) hc ?_; clear hc h
   rintro _ w ⟨car41, rfl, h⟩; refine ⟨_, rfl, ?_⟩
   clear hr a; intro a hr
   refine opv (wgt hr (beq_iff_eq.mpr c38)) hr (vI ((r39.length : Nat) : Int)) (by kernel_rfl) ?_; clear hr a; intro a hr
   refine opv (wgt hr (beq_iff_eq.mpr c38)) hr (vB (((r39.length : Nat) : Int) == (0 : Int))) (by kernel_rfl) ?_; clear hr a; intro a hr
   refine opv (wn rfl) hr (vB (((r39.length : Nat) : Int) == (0 : Int))) (rp_t (b := (r36 == (0 : Int))) rfl (by kernel_rfl) (beq_iff_eq.mpr c38) (by kernel_rfl)) ?_; clear hr a; intro a hr
   refine ov hr (vB (((r39.length : Nat) : Int) == (0 : Int))) (by kernel_rfl) ?_; clear hr a; intro a hr
   by_cases c42 : ((r39.length : Nat) : Int) = (0 : Int)
   ·
    replace H := ifT c42 H
    refine opv (wgt hr (beq_iff_eq.mpr c42)) hr (pN) (by kernel_rfl) ?_; clear hr a; intro a hr
    replace H := bd1 H; obtain ⟨r43, e44, H⟩ := H
    have hc := cells_Arena_Log_nil_ok (H := e44) (h := h)
    refine op_call (wgt hr (beq_iff_eq.mpr c42)) rfl rfl hr (f := 70) (args := #[pN]) (by kernel_rfl) hc ?_; clear hc h
    rintro _ w ⟨car45, rfl, h⟩; refine ⟨_, rfl, ?_⟩
    clear hr a; intro a hr
    refine opv (wgt hr (beq_iff_eq.mpr c42)) hr (vI ((r43.length : Nat) : Int)) (by kernel_rfl) ?_; clear hr a; intro a hr
    refine opv (wgt hr (beq_iff_eq.mpr c42)) hr (vB (((r43.length : Nat) : Int) == (0 : Int))) (by kernel_rfl) ?_; clear hr a; intro a hr
    refine opv (wn rfl) hr (vB (((r43.length : Nat) : Int) == (0 : Int))) (rp_t (b := (((r39.length : Nat) : Int) == (0 : Int))) rfl (by kernel_rfl) (beq_iff_eq.mpr c42) (by kernel_rfl)) ?_; clear hr a; intro a hr
    refine ov hr (vB (((r43.length : Nat) : Int) == (0 : Int))) (by kernel_rfl) ?_; clear hr a; intro a hr
    refine ln ?_
    refine wp_ret ?_
    refine end_ret1 (v := vB (((r43.length : Nat) : Int) == (0 : Int))) rfl hr (by kernel_rfl) ?_
    replace h : Fit z (sepL (L)) _ := h.sel 2 [] (by kernel_rfl) (by kernel_rfl)
    replace H := ej1 H; subst H
    exact ⟨rfl, h⟩
   ·
    replace H := ifF c42 H
    refine offg (wgt hr (beq_eq_false_iff_ne.mpr c42)) hr ?_; clear hr a; intro a hr
    refine offg (wgt hr (beq_eq_false_iff_ne.mpr c42)) hr ?_; clear hr a; intro a hr
    refine offg (wgt hr (beq_eq_false_iff_ne.mpr c42)) hr ?_; clear hr a; intro a hr
    refine offg (wgt hr (beq_eq_false_iff_ne.mpr c42)) hr ?_; clear hr a; intro a hr
    refine opv (wn rfl) hr (vB false) (rp_f (b := (((r39.length : Nat) : Int) == (0 : Int))) rfl (by kernel_rfl) (beq_eq_false_iff_ne.mpr c42) (by kernel_rfl)) ?_; clear hr a; intro a hr
    refine ov hr (vB false) (by kernel_rfl) ?_; clear hr a; intro a hr
    refine ln ?_
    refine wp_ret ?_
    refine end_ret1 (v := vB false) rfl hr (by kernel_rfl) ?_
    replace h : Fit z (sepL (L)) _ := h.sel 1 [] (by kernel_rfl) (by kernel_rfl)
    replace H := ej1 H; subst H
    exact ⟨rfl, h⟩
  ·
   replace H := ifF c38 H
   refine offg (wgt hr (beq_eq_false_iff_ne.mpr c38)) hr ?_; clear hr a; intro a hr
   refine offg (wgt hr (beq_eq_false_iff_ne.mpr c38)) hr ?_; clear hr a; intro a hr
   refine offg (wgt hr (beq_eq_false_iff_ne.mpr c38)) hr ?_; clear hr a; intro a hr
   refine offg (wgt hr (beq_eq_false_iff_ne.mpr c38)) hr ?_; clear hr a; intro a hr
   refine opv (wn rfl) hr (vB false) (rp_f (b := (r36 == (0 : Int))) rfl (by kernel_rfl) (beq_eq_false_iff_ne.mpr c38) (by kernel_rfl)) ?_; clear hr a; intro a hr
   refine ov hr (vB false) (by kernel_rfl) ?_; clear hr a; intro a hr
   refine offg (wgt hr (c := false) rfl) hr ?_; clear hr a; intro a hr
   refine offg (wgt hr (c := false) rfl) hr ?_; clear hr a; intro a hr
   refine offg (wgt hr (c := false) rfl) hr ?_; clear hr a; intro a hr
   refine offg (wgt hr (c := false) rfl) hr ?_; clear hr a; intro a hr
   refine ovs [105, 2] [vB false, vB false] hr ⟨rfl, rfl⟩ (by kernel_rfl) ?_; clear hr a; intro a hr
   refine ln ?_
   refine wp_ret ?_
   refine end_ret1 (v := vB false) rfl hr (by kernel_rfl) ?_
   replace H := ej1 H; subst H
   exact ⟨rfl, h⟩
 ·
  replace H := ifF c35 H
  refine offg (wgt hr (beq_eq_false_iff_ne.mpr c35)) hr ?_; clear hr a; intro a hr
  refine offg (wgt hr (beq_eq_false_iff_ne.mpr c35)) hr ?_; clear hr a; intro a hr
  refine offg (wgt hr (beq_eq_false_iff_ne.mpr c35)) hr ?_; clear hr a; intro a hr
  refine opv (wn rfl) hr (vB false) (rp_f (b := (r33 == (0 : Int))) rfl (by kernel_rfl) (beq_eq_false_iff_ne.mpr c35) (by kernel_rfl)) ?_; clear hr a; intro a hr
  refine ov hr (vB false) (by kernel_rfl) ?_; clear hr a; intro a hr
  refine offg (wgt hr (c := false) rfl) hr ?_; clear hr a; intro a hr
  refine offg (wgt hr (c := false) rfl) hr ?_; clear hr a; intro a hr
  refine offg (wgt hr (c := false) rfl) hr ?_; clear hr a; intro a hr
  refine offg (wgt hr (c := false) rfl) hr ?_; clear hr a; intro a hr
  refine ovs [99, 100] [vB false, vB false] hr ⟨rfl, rfl⟩ (by kernel_rfl) ?_; clear hr a; intro a hr
  refine offg (wgt hr (c := false) rfl) hr ?_; clear hr a; intro a hr
  refine offg (wgt hr (c := false) rfl) hr ?_; clear hr a; intro a hr
  refine offg (wgt hr (c := false) rfl) hr ?_; clear hr a; intro a hr
  refine offg (wgt hr (c := false) rfl) hr ?_; clear hr a; intro a hr
  refine ovs [105, 2] [vB false, vB false] hr ⟨rfl, rfl⟩ (by kernel_rfl) ?_; clear hr a; intro a hr
  refine ln ?_
  refine wp_ret ?_
  refine end_ret1 (v := vB false) rfl hr (by kernel_rfl) ?_
  replace H := ej1 H; subst H
  exact ⟨rfl, h⟩

/-- (*plunder/cells.Shared).outside -/
def cells_Shared_outside_nil (p1 : Int) : Option (Bool) :=
  some true
set_option maxRecDepth 100000 in
set_option maxHeartbeats 4000000 in
theorem cells_Shared_outside_nil_ok {z w : World} {L : List HProp} {p1 : Int} {r0 : Bool} (H : cells_Shared_outside_nil p1 = some r0) (h : Fit z (sepL (L)) w)  :
    Calls Try.prog 103 #[pN, vI p1] w fun e w => e = .returned (vB r0) ∧ Fit z (sepL (L)) w := by
 unfold cells_Shared_outside_nil at H
 refine enter Try.func103 rfl 19 rfl rfl [(0, pN), (1, vI p1)] ⟨rfl, rfl, trivial⟩ ?_
 intro j a hr
 refine sr ?_
 refine ov hr (vB false) (by kernel_rfl) ?_; clear hr a; intro a hr
 refine ln ?_
 refine sr ?_
 refine ovs [5, 6, 7] [pN, vB true, vB true] hr ⟨rfl, rfl⟩ (by kernel_rfl) ?_; clear hr a; intro a hr
 refine offg (wgt hr (c := true) rfl) hr ?_; clear hr a; intro a hr
 refine offg (wgt hr (c := true) rfl) hr ?_; clear hr a; intro a hr
 refine ovs [10, 11] [vB true, vB true] hr ⟨rfl, rfl⟩ (by kernel_rfl) ?_; clear hr a; intro a hr
 refine offg (wgt hr (c := true) rfl) hr ?_; clear hr a; intro a hr
 refine offg (wgt hr (c := true) rfl) hr ?_; clear hr a; intro a hr
 refine offg (wgt hr (c := true) rfl) hr ?_; clear hr a; intro a hr
 refine offg (wgt hr (c := true) rfl) hr ?_; clear hr a; intro a hr
 refine offg (wgt hr (c := true) rfl) hr ?_; clear hr a; intro a hr
 refine offg (wgt hr (c := true) rfl) hr ?_; clear hr a; intro a hr
 refine ovs [18, 4] [vB true, vB true] hr ⟨rfl, rfl⟩ (by kernel_rfl) ?_; clear hr a; intro a hr
 refine ln ?_
 refine wp_ret ?_
 refine end_ret1 (v := vB true) rfl hr (by kernel_rfl) ?_
 replace H := ej1 H; subst H
 exact ⟨rfl, h⟩

/-- (*plunder/cells.Shared).Load -/
def cells_Shared_Load_nil (p1 : Int) : Option (Int × Int) :=
  ob1 (cells_Shared_outside_nil p1) (fun r1 => (if r1 = true then some (0, 20) else none))
set_option maxRecDepth 100000 in
set_option maxHeartbeats 4000000 in
theorem cells_Shared_Load_nil_ok {z w : World} {L : List HProp} {p1 : Int} {r0 : Int} {r1 : Int} (H : cells_Shared_Load_nil p1 = some (r0, r1)) (h : Fit z (sepL (L)) w)  :
    Calls Try.prog 73 #[pN, vI p1] w fun e w => e = .returned (.tuple #[vI r0, vI r1]) ∧ Fit z (sepL (L)) w := by
 unfold cells_Shared_Load_nil at H
 refine enter Try.func73 rfl 16 rfl rfl [(0, pN), (1, vI p1)] ⟨rfl, rfl, trivial⟩ ?_
 intro j a hr
 refine sr ?_
 refine ovs [4, 5] [vI 0, vI 0] hr ⟨rfl, rfl⟩ (by kernel_rfl) ?_; clear hr a; intro a hr
 refine ln ?_
 refine wp_seq ?_
 refine sr ?_
 replace H := bd1 H; obtain ⟨r1, e2, H⟩ := H
 refine ovs [6, 7] [pN, vI p1] hr ⟨rfl, rfl⟩ (by kernel_rfl) ?_; clear hr a; intro a hr
 have hc := cells_Shared_outside_nil_ok (H := e2) (h := h)
 refine op_call (wn rfl) rfl rfl hr (f := 103) (args := #[pN, vI p1]) (by kernel_rfl) hc ?_; clear hc h
 rintro _ w ⟨rfl, h⟩; refine ⟨_, rfl, ?_⟩
 clear hr a; intro a hr
 refine ln ?_
 by_cases c3 : r1 = true
 ·
  replace H := ifT c3 H
  refine cond_tt hr (b := r1) (c3) ?_
  refine sr ?_
  refine ovs [4, 5] [vI 0, vI 20] hr ⟨rfl, rfl⟩ (by kernel_rfl) ?_; clear hr a; intro a hr
  refine ln ?_
  refine wp_ret ?_
  refine then_ret ?_
  refine end_ret2 (v := vI 0) (v' := vI 20) rfl hr (by kernel_rfl) (by kernel_rfl) ?_
  replace H := ej2 H; obtain ⟨rfl, rfl⟩ := H
  exact ⟨rfl, h⟩
 ·
  replace H := ifF c3 H
  refine cond_ff hr (b := r1) (bF c3) ?_
  refine wp_skip ?_
  refine then_normal ?_
  refine sr ?_
  cases H

/-- (*plunder/cells.Shared).Store -/
def cells_Shared_Store_nil (p1 : Int) (p2 : Int) : Option (Int) :=
  ob1 (cells_Shared_outside_nil p1) (fun r1 => (if r1 = true then some 20 else none))
set_option maxRecDepth 100000 in
set_option maxHeartbeats 4000000 in
theorem cells_Shared_Store_nil_ok {z w : World} {L : List HProp} {p1 : Int} {p2 : Int} {r0 : Int} (H : cells_Shared_Store_nil p1 p2 = some r0) (h : Fit z (sepL (L)) w)  :
    Calls Try.prog 74 #[pN, vI p1, vI p2] w fun e w => e = .returned (vI r0) ∧ Fit z (sepL (L)) w := by
 unfold cells_Shared_Store_nil at H
 refine enter Try.func74 rfl 18 rfl rfl [(0, pN), (1, vI p1), (2, vI p2)] ⟨rfl, rfl, rfl, trivial⟩ ?_
 intro j a hr
 refine sr ?_
 refine ov hr (vI 0) (by kernel_rfl) ?_; clear hr a; intro a hr
 refine ln ?_
 refine wp_seq ?_
 refine sr ?_
 replace H := bd1 H; obtain ⟨r1, e2, H⟩ := H
 refine ovs [7, 8] [pN, vI p1] hr ⟨rfl, rfl⟩ (by kernel_rfl) ?_; clear hr a; intro a hr
 have hc := cells_Shared_outside_nil_ok (H := e2) (h := h)
 refine op_call (wn rfl) rfl rfl hr (f := 103) (args := #[pN, vI p1]) (by kernel_rfl) hc ?_; clear hc h
 rintro _ w ⟨rfl, h⟩; refine ⟨_, rfl, ?_⟩
 clear hr a; intro a hr
 refine ln ?_
 by_cases c3 : r1 = true
 ·
  replace H := ifT c3 H
  refine cond_tt hr (b := r1) (c3) ?_
  refine sr ?_
  refine ov hr (vI 20) (by kernel_rfl) ?_; clear hr a; intro a hr
  refine ln ?_
  refine wp_ret ?_
  refine then_ret ?_
  refine end_ret1 (v := vI 20) rfl hr (by kernel_rfl) ?_
  replace H := ej1 H; subst H
  exact ⟨rfl, h⟩
 ·
  replace H := ifF c3 H
  refine cond_ff hr (b := r1) (bF c3) ?_
  refine wp_skip ?_
  refine then_normal ?_
  refine sr ?_
  cases H

/-- (*plunder/cells.Shared).CAS -/
def cells_Shared_CAS_nil (p1 : Int) (p2 : Int) (p3 : Int) : Option (Bool × Int) :=
  ob1 (cells_Shared_outside_nil p1) (fun r1 => (if r1 = true then some (false, 20) else none))
set_option maxRecDepth 100000 in
set_option maxHeartbeats 4000000 in
theorem cells_Shared_CAS_nil_ok {z w : World} {L : List HProp} {p1 : Int} {p2 : Int} {p3 : Int} {r0 : Bool} {r1 : Int} (H : cells_Shared_CAS_nil p1 p2 p3 = some (r0, r1)) (h : Fit z (sepL (L)) w)  :
    Calls Try.prog 75 #[pN, vI p1, vI p2, vI p3] w fun e w => e = .returned (.tuple #[vB r0, vI r1]) ∧ Fit z (sepL (L)) w := by
 unfold cells_Shared_CAS_nil at H
 refine enter Try.func75 rfl 22 rfl rfl [(0, pN), (1, vI p1), (2, vI p2), (3, vI p3)] ⟨rfl, rfl, rfl, rfl, trivial⟩ ?_
 intro j a hr
 refine sr ?_
 refine ovs [8, 9] [vB false, vI 0] hr ⟨rfl, rfl⟩ (by kernel_rfl) ?_; clear hr a; intro a hr
 refine ln ?_
 refine wp_seq ?_
 refine sr ?_
 replace H := bd1 H; obtain ⟨r1, e2, H⟩ := H
 refine ovs [10, 11] [pN, vI p1] hr ⟨rfl, rfl⟩ (by kernel_rfl) ?_; clear hr a; intro a hr
 have hc := cells_Shared_outside_nil_ok (H := e2) (h := h)
 refine op_call (wn rfl) rfl rfl hr (f := 103) (args := #[pN, vI p1]) (by kernel_rfl) hc ?_; clear hc h
 rintro _ w ⟨rfl, h⟩; refine ⟨_, rfl, ?_⟩
 clear hr a; intro a hr
 refine ln ?_
 by_cases c3 : r1 = true
 ·
  replace H := ifT c3 H
  refine cond_tt hr (b := r1) (c3) ?_
  refine sr ?_
  refine ovs [8, 9] [vB false, vI 20] hr ⟨rfl, rfl⟩ (by kernel_rfl) ?_; clear hr a; intro a hr
  refine ln ?_
  refine wp_ret ?_
  refine then_ret ?_
  refine end_ret2 (v := vB false) (v' := vI 20) rfl hr (by kernel_rfl) (by kernel_rfl) ?_
  replace H := ej2 H; obtain ⟨rfl, rfl⟩ := H
  exact ⟨rfl, h⟩
 ·
  replace H := ifF c3 H
  refine cond_ff hr (b := r1) (bF c3) ?_
  refine wp_skip ?_
  refine then_normal ?_
  refine sr ?_
  cases H

/-- (*plunder/cells.Shared).Add -/
def cells_Shared_Add_nil (p1 : Int) (p2 : Int) : Option (Int × Int) :=
  ob1 (cells_Shared_outside_nil p1) (fun r1 => (if r1 = true then some (0, 20) else none))
set_option maxRecDepth 100000 in
set_option maxHeartbeats 4000000 in
theorem cells_Shared_Add_nil_ok {z w : World} {L : List HProp} {p1 : Int} {p2 : Int} {r0 : Int} {r1 : Int} (H : cells_Shared_Add_nil p1 p2 = some (r0, r1)) (h : Fit z (sepL (L)) w)  :
    Calls Try.prog 76 #[pN, vI p1, vI p2] w fun e w => e = .returned (.tuple #[vI r0, vI r1]) ∧ Fit z (sepL (L)) w := by
 unfold cells_Shared_Add_nil at H
 refine enter Try.func76 rfl 19 rfl rfl [(0, pN), (1, vI p1), (2, vI p2)] ⟨rfl, rfl, rfl, trivial⟩ ?_
 intro j a hr
 refine sr ?_
 refine ovs [6, 7] [vI 0, vI 0] hr ⟨rfl, rfl⟩ (by kernel_rfl) ?_; clear hr a; intro a hr
 refine ln ?_
 refine wp_seq ?_
 refine sr ?_
 replace H := bd1 H; obtain ⟨r1, e2, H⟩ := H
 refine ovs [8, 9] [pN, vI p1] hr ⟨rfl, rfl⟩ (by kernel_rfl) ?_; clear hr a; intro a hr
 have hc := cells_Shared_outside_nil_ok (H := e2) (h := h)
 refine op_call (wn rfl) rfl rfl hr (f := 103) (args := #[pN, vI p1]) (by kernel_rfl) hc ?_; clear hc h
 rintro _ w ⟨rfl, h⟩; refine ⟨_, rfl, ?_⟩
 clear hr a; intro a hr
 refine ln ?_
 by_cases c3 : r1 = true
 ·
  replace H := ifT c3 H
  refine cond_tt hr (b := r1) (c3) ?_
  refine sr ?_
  refine ovs [6, 7] [vI 0, vI 20] hr ⟨rfl, rfl⟩ (by kernel_rfl) ?_; clear hr a; intro a hr
  refine ln ?_
  refine wp_ret ?_
  refine then_ret ?_
  refine end_ret2 (v := vI 0) (v' := vI 20) rfl hr (by kernel_rfl) (by kernel_rfl) ?_
  replace H := ej2 H; obtain ⟨rfl, rfl⟩ := H
  exact ⟨rfl, h⟩
 ·
  replace H := ifF c3 H
  refine cond_ff hr (b := r1) (bF c3) ?_
  refine wp_skip ?_
  refine then_normal ?_
  refine sr ?_
  cases H

/-- (*plunder/cells.Shared).Reserve -/
def cells_Shared_Reserve_nil (p1 : Int) : Option (Int × Int) :=
  ob1 (cells_ledger_refuse_nil p1) (fun r1 => some (0, r1))
set_option maxRecDepth 100000 in
set_option maxHeartbeats 4000000 in
theorem cells_Shared_Reserve_nil_ok {z w : World} {L : List HProp} {p1 : Int} {r0 : Int} {r1 : Int} (H : cells_Shared_Reserve_nil p1 = some (r0, r1)) (h : Fit z (sepL (L)) w)  :
    Calls Try.prog 77 #[pN, vI p1] w fun e w => e = .returned (.tuple #[vI r0, vI r1]) ∧ Fit z (sepL (L)) w := by
 unfold cells_Shared_Reserve_nil at H
 refine enterD Try.func77 rfl 42 rfl rfl [(0, pN), (1, vI p1)] ⟨rfl, rfl, trivial⟩ ?_
 intro j a hr
 refine sr ?_
 refine ovs [4, 5] [vI 0, vI 0] hr ⟨rfl, rfl⟩ (by kernel_rfl) ?_; clear hr a; intro a hr
 refine ln ?_
 refine wp_seq ?_
 refine sr ?_
 refine ovs [9, 10] [pN, vB true] hr ⟨rfl, rfl⟩ (by kernel_rfl) ?_; clear hr a; intro a hr
 refine ln ?_
 refine cond_tt hr (b := true) rfl ?_
 refine sr ?_
 refine ov hr (pN) (by kernel_rfl) ?_; clear hr a; intro a hr
 refine ln ?_
 refine sr ?_
 replace H := bd1 H; obtain ⟨r1, e2, H⟩ := H
 refine ovs [11, 12] [pN, vI p1] hr ⟨rfl, rfl⟩ (by kernel_rfl) ?_; clear hr a; intro a hr
 have hc := cells_ledger_refuse_nil_ok (H := e2) (h := h)
 refine op_call (wn rfl) rfl rfl hr (f := 62) (args := #[pN, vI p1]) (by kernel_rfl) hc ?_; clear hc h
 rintro _ w ⟨rfl, h⟩; refine ⟨_, rfl, ?_⟩
 clear hr a; intro a hr
 refine ovs [4, 5] [vI 0, vI r1] hr ⟨rfl, rfl⟩ (by kernel_rfl) ?_; clear hr a; intro a hr
 refine ln ?_
 refine wp_ret ?_
 refine then_ret ?_
 refine endD_none hr (res2 (v := vI 0) (v' := vI r1) rfl hr (by kernel_rfl) (by kernel_rfl) _) ?_
 replace H := ej2 H; obtain ⟨rfl, rfl⟩ := H
 exact ⟨rfl, h⟩

/-- (*plunder/cells.Shared).Size -/
def cells_Shared_Size_nil : Option (Int) :=
  some 0
set_option maxRecDepth 100000 in
set_option maxHeartbeats 4000000 in
theorem cells_Shared_Size_nil_ok {z w : World} {L : List HProp}  {r0 : Int} (H : cells_Shared_Size_nil = some r0) (h : Fit z (sepL (L)) w)  :
    Calls Try.prog 32 #[pN] w fun e w => e = .returned (vI r0) ∧ Fit z (sepL (L)) w := by
 unfold cells_Shared_Size_nil at H
 refine enter Try.func32 rfl 9 rfl rfl [(0, pN)] ⟨rfl, trivial⟩ ?_
 intro j a hr
 refine sr ?_
 refine ov hr (vI 0) (by kernel_rfl) ?_; clear hr a; intro a hr
 refine ln ?_
 refine wp_seq ?_
 refine sr ?_
 refine ovs [3, 4] [pN, vB true] hr ⟨rfl, rfl⟩ (by kernel_rfl) ?_; clear hr a; intro a hr
 refine ln ?_
 refine cond_tt hr (b := true) rfl ?_
 refine sr ?_
 refine ov hr (vI 0) (by kernel_rfl) ?_; clear hr a; intro a hr
 refine ln ?_
 refine wp_ret ?_
 refine then_ret ?_
 refine end_ret1 (v := vI 0) rfl hr (by kernel_rfl) ?_
 replace H := ej1 H; subst H
 exact ⟨rfl, h⟩

/-- (*plunder/cells.Shared).Mark -/
def cells_Shared_Mark_nil : Option (Int) :=
  some 0
set_option maxRecDepth 100000 in
set_option maxHeartbeats 4000000 in
theorem cells_Shared_Mark_nil_ok {z w : World} {L : List HProp}  {r0 : Int} (H : cells_Shared_Mark_nil = some r0) (h : Fit z (sepL (L)) w)  :
    Calls Try.prog 33 #[pN] w fun e w => e = .returned (vI r0) ∧ Fit z (sepL (L)) w := by
 unfold cells_Shared_Mark_nil at H
 refine enterD Try.func33 rfl 16 rfl rfl [(0, pN)] ⟨rfl, trivial⟩ ?_
 intro j a hr
 refine sr ?_
 refine ov hr (vI 0) (by kernel_rfl) ?_; clear hr a; intro a hr
 refine ln ?_
 refine wp_seq ?_
 refine sr ?_
 refine ovs [3, 4] [pN, vB true] hr ⟨rfl, rfl⟩ (by kernel_rfl) ?_; clear hr a; intro a hr
 refine ln ?_
 refine cond_tt hr (b := true) rfl ?_
 refine sr ?_
 refine ov hr (vI 0) (by kernel_rfl) ?_; clear hr a; intro a hr
 refine ln ?_
 refine wp_ret ?_
 refine then_ret ?_
 refine endD_none hr (res1 (v := vI 0) rfl hr (by kernel_rfl) _) ?_
 replace H := ej1 H; subst H
 exact ⟨rfl, h⟩

/-- plunder/plunderlaw2.noneShared -/
def plunderlaw2_noneShared_nil : Option (Bool) :=
  ob2 (cells_Shared_Load_nil 0) (fun r1 r2 => ob1 (cells_Shared_Store_nil 0 1) (fun r4 => ob2 (cells_Shared_CAS_nil 0 0 1) (fun r6 r7 => ob2 (cells_Shared_Add_nil 0 1) (fun r9 r10 => ob2 (cells_Shared_Reserve_nil 1) (fun r12 r13 => ob2 (cells_Shared_Reserve_nil 0) (fun r15 r16 => jn0 ((if r1 = (0 : Int) then (if r6 = true then some (.inr false) else (if r9 = (0 : Int) then (if r12 = (0 : Int) then (if r15 = (0 : Int) then (if r2 = (20 : Int) then (if r4 = (20 : Int) then (if r7 = (20 : Int) then (if r10 = (20 : Int) then (if r13 = (22 : Int) then (if r16 = (21 : Int) then some (.inl ()) else some (.inr false)) else some (.inr false)) else some (.inr false)) else some (.inr false)) else some (.inr false)) else some (.inr false)) else some (.inr false)) else some (.inr false)) else some (.inr false))) else some (.inr false))) (ob1 (cells_Shared_Size_nil) (fun r31 => (if r31 = (0 : Int) then ob1 (cells_Shared_Mark_nil) (fun r34 => some (r34 == (0 : Int))) else some false)))))))))
set_option maxRecDepth 100000 in
set_option maxHeartbeats 4000000 in
theorem plunderlaw2_noneShared_nil_ok {z w : World} {L : List HProp}  {r0 : Bool} (H : plunderlaw2_noneShared_nil = some r0) (h : Fit z (sepL (L)) w)  :
    Calls Try.prog 49 #[pN] w fun e w => e = .returned (vB r0) ∧ Fit z (sepL (L)) w := by
 unfold plunderlaw2_noneShared_nil at H
 refine enter Try.func49 rfl 90 rfl rfl [(0, pN)] ⟨rfl, trivial⟩ ?_
 intro j a hr
 refine sr ?_
 refine ov hr (vB false) (by kernel_rfl) ?_; clear hr a; intro a hr
 refine ln ?_
 refine sr ?_
 replace H := bd2 H; obtain ⟨r1, r2, e3, H⟩ := H
 refine ov hr (pN) (by kernel_rfl) ?_; clear hr a; intro a hr
 have hc := cells_Shared_Load_nil_ok (H := e3) (h := h)
 refine op_call (wn rfl) rfl rfl hr (f := 73) (args := #[pN, vI 0]) (by kernel_rfl) hc ?_; clear hc h
 rintro _ w ⟨rfl, h⟩; refine ⟨_, rfl, ?_⟩
 clear hr a; intro a hr
 refine ovs [14, 17, 18, 3, 4] [.tuple #[vI r1, vI r2], vI r1, vI r2, vI r1, vI r2] hr ⟨rfl, rfl⟩ (by kernel_rfl) ?_; clear hr a; intro a hr
 refine ln ?_
 refine sr ?_
 replace H := bd1 H; obtain ⟨r4, e5, H⟩ := H
 refine ov hr (pN) (by kernel_rfl) ?_; clear hr a; intro a hr
 have hc := cells_Shared_Store_nil_ok (H := e5) (h := h)
 refine op_call (wn rfl) rfl rfl hr (f := 74) (args := #[pN, vI 0, vI 1]) (by kernel_rfl) hc ?_; clear hc h
 rintro _ w ⟨rfl, h⟩; refine ⟨_, rfl, ?_⟩
 clear hr a; intro a hr
 refine ov hr (vI r4) (by kernel_rfl) ?_; clear hr a; intro a hr
 refine ln ?_
 refine sr ?_
 replace H := bd2 H; obtain ⟨r6, r7, e8, H⟩ := H
 refine ov hr (pN) (by kernel_rfl) ?_; clear hr a; intro a hr
 have hc := cells_Shared_CAS_nil_ok (H := e8) (h := h)
 refine op_call (wn rfl) rfl rfl hr (f := 75) (args := #[pN, vI 0, vI 0, vI 1]) (by kernel_rfl) hc ?_; clear hc h
 rintro _ w ⟨rfl, h⟩; refine ⟨_, rfl, ?_⟩
 clear hr a; intro a hr
 refine ovs [21, 24, 25, 6, 7] [.tuple #[vB r6, vI r7], vB r6, vI r7, vB r6, vI r7] hr ⟨rfl, rfl⟩ (by kernel_rfl) ?_; clear hr a; intro a hr
 refine ln ?_
 refine sr ?_
 replace H := bd2 H; obtain ⟨r9, r10, e11, H⟩ := H
 refine ov hr (pN) (by kernel_rfl) ?_; clear hr a; intro a hr
 have hc := cells_Shared_Add_nil_ok (H := e11) (h := h)
 refine op_call (wn rfl) rfl rfl hr (f := 76) (args := #[pN, vI 0, vI 1]) (by kernel_rfl) hc ?_; clear hc h
 rintro _ w ⟨rfl, h⟩; refine ⟨_, rfl, ?_⟩
 clear hr a; intro a hr
 refine ovs [26, 29, 30, 8, 9] [.tuple #[vI r9, vI r10], vI r9, vI r10, vI r9, vI r10] hr ⟨rfl, rfl⟩ (by kernel_rfl) ?_; clear hr a; intro a hr
 refine ln ?_
 refine sr ?_
 replace H := bd2 H; obtain ⟨r12, r13, e14, H⟩ := H
 refine ov hr (pN) (by kernel_rfl) ?_; clear hr a; intro a hr
 have hc := cells_Shared_Reserve_nil_ok (H := e14) (h := h)
 refine op_call (wn rfl) rfl rfl hr (f := 77) (args := #[pN, vI 1]) (by kernel_rfl) hc ?_; clear hc h
 rintro _ w ⟨rfl, h⟩; refine ⟨_, rfl, ?_⟩
 clear hr a; intro a hr
 refine ovs [31, 34, 35, 10, 11] [.tuple #[vI r12, vI r13], vI r12, vI r13, vI r12, vI r13] hr ⟨rfl, rfl⟩ (by kernel_rfl) ?_; clear hr a; intro a hr
 refine ln ?_
 refine sr ?_
 replace H := bd2 H; obtain ⟨r15, r16, e17, H⟩ := H
 refine ov hr (pN) (by kernel_rfl) ?_; clear hr a; intro a hr
 have hc := cells_Shared_Reserve_nil_ok (H := e17) (h := h)
 refine op_call (wn rfl) rfl rfl hr (f := 77) (args := #[pN, vI 0]) (by kernel_rfl) hc ?_; clear hc h
 rintro _ w ⟨rfl, h⟩; refine ⟨_, rfl, ?_⟩
 clear hr a; intro a hr
 refine ovs [36, 39, 40, 12, 13] [.tuple #[vI r15, vI r16], vI r15, vI r16, vI r15, vI r16] hr ⟨rfl, rfl⟩ (by kernel_rfl) ?_; clear hr a; intro a hr
 refine ln ?_
 replace H := jd0 H; obtain ⟨o19, H, hK18⟩ := H
 refine cut_rule (β := Unit) (fun _ a w => .inl () = o19 ∧ ∃ j, Rep 90 (lk [(0, pN)] j) a ∧ Fit z (sepL (L)) w) ?_ ?_
 ·
  refine sr ?_
  refine ovs [41, 42, 43] [vI r1, vB (r1 != (0 : Int)), vB (r1 != (0 : Int))] hr ⟨rfl, rfl⟩ (by kernel_rfl) ?_; clear hr a; intro a hr
  by_cases c20 : r1 = (0 : Int)
  ·
   replace H := ifT c20 H
   refine opv (wgt hr (bne_eq_false_iff_eq.mpr c20)) hr (vB r6) (by kernel_rfl) ?_; clear hr a; intro a hr
   refine opv (wn rfl) hr (vB r6) (rp_f (b := (r1 != (0 : Int))) rfl (by kernel_rfl) (bne_eq_false_iff_eq.mpr c20) (by kernel_rfl)) ?_; clear hr a; intro a hr
   refine ov hr (vB r6) (by kernel_rfl) ?_; clear hr a; intro a hr
   by_cases c21 : r6 = true
   ·
    replace H := ifT c21 H
    refine offg (wgt hr (c21)) hr ?_; clear hr a; intro a hr
    refine offg (wgt hr (c21)) hr ?_; clear hr a; intro a hr
    refine opv (wn rfl) hr (vB true) (rp_t (b := r6) rfl (by kernel_rfl) (c21) (by kernel_rfl)) ?_; clear hr a; intro a hr
    refine ov hr (vB true) (by kernel_rfl) ?_; clear hr a; intro a hr
    refine offg (wgt hr (c := true) rfl) hr ?_; clear hr a; intro a hr
    refine offg (wgt hr (c := true) rfl) hr ?_; clear hr a; intro a hr
    refine ovs [53, 54] [vB true, vB true] hr ⟨rfl, rfl⟩ (by kernel_rfl) ?_; clear hr a; intro a hr
    refine offg (wgt hr (c := true) rfl) hr ?_; clear hr a; intro a hr
    refine offg (wgt hr (c := true) rfl) hr ?_; clear hr a; intro a hr
    refine ovs [57, 58] [vB true, vB true] hr ⟨rfl, rfl⟩ (by kernel_rfl) ?_; clear hr a; intro a hr
    refine offg (wgt hr (c := true) rfl) hr ?_; clear hr a; intro a hr
    refine offg (wgt hr (c := true) rfl) hr ?_; clear hr a; intro a hr
    refine ovs [61, 62] [vB true, vB true] hr ⟨rfl, rfl⟩ (by kernel_rfl) ?_; clear hr a; intro a hr
    refine offg (wgt hr (c := true) rfl) hr ?_; clear hr a; intro a hr
    refine offg (wgt hr (c := true) rfl) hr ?_; clear hr a; intro a hr
    refine ovs [65, 66] [vB true, vB true] hr ⟨rfl, rfl⟩ (by kernel_rfl) ?_; clear hr a; intro a hr
    refine offg (wgt hr (c := true) rfl) hr ?_; clear hr a; intro a hr
    refine offg (wgt hr (c := true) rfl) hr ?_; clear hr a; intro a hr
    refine ovs [69, 70] [vB true, vB true] hr ⟨rfl, rfl⟩ (by kernel_rfl) ?_; clear hr a; intro a hr
    refine offg (wgt hr (c := true) rfl) hr ?_; clear hr a; intro a hr
    refine offg (wgt hr (c := true) rfl) hr ?_; clear hr a; intro a hr
    refine ovs [73, 74] [vB true, vB true] hr ⟨rfl, rfl⟩ (by kernel_rfl) ?_; clear hr a; intro a hr
    refine offg (wgt hr (c := true) rfl) hr ?_; clear hr a; intro a hr
    refine offg (wgt hr (c := true) rfl) hr ?_; clear hr a; intro a hr
    refine ovs [77, 78] [vB true, vB true] hr ⟨rfl, rfl⟩ (by kernel_rfl) ?_; clear hr a; intro a hr
    refine offg (wgt hr (c := true) rfl) hr ?_; clear hr a; intro a hr
    refine offg (wgt hr (c := true) rfl) hr ?_; clear hr a; intro a hr
    refine ov hr (vB true) (by kernel_rfl) ?_; clear hr a; intro a hr
    refine ln ?_
    refine cond_tt hr (b := true) rfl ?_
    refine sr ?_
    refine ov hr (vB false) (by kernel_rfl) ?_; clear hr a; intro a hr
    refine ln ?_
    refine wp_ret ?_
    refine then_ret ?_
    refine end_ret1 (v := vB false) rfl hr (by kernel_rfl) ?_
    replace H := jx0 H hK18
    replace H := ej1 H; subst H
    exact ⟨rfl, h⟩
   ·
    replace H := ifF c21 H
    refine opv (wgt hr (bF c21)) hr (vI r9) (by kernel_rfl) ?_; clear hr a; intro a hr
    refine opv (wgt hr (bF c21)) hr (vB (r9 != (0 : Int))) (by kernel_rfl) ?_; clear hr a; intro a hr
    refine opv (wn rfl) hr (vB (r9 != (0 : Int))) (rp_f (b := r6) rfl (by kernel_rfl) (bF c21) (by kernel_rfl)) ?_; clear hr a; intro a hr
    refine ov hr (vB (r9 != (0 : Int))) (by kernel_rfl) ?_; clear hr a; intro a hr
    by_cases c22 : r9 = (0 : Int)
    ·
     replace H := ifT c22 H
     refine opv (wgt hr (bne_eq_false_iff_eq.mpr c22)) hr (vI r12) (by kernel_rfl) ?_; clear hr a; intro a hr
     refine opv (wgt hr (bne_eq_false_iff_eq.mpr c22)) hr (vB (r12 != (0 : Int))) (by kernel_rfl) ?_; clear hr a; intro a hr
     refine opv (wn rfl) hr (vB (r12 != (0 : Int))) (rp_f (b := (r9 != (0 : Int))) rfl (by kernel_rfl) (bne_eq_false_iff_eq.mpr c22) (by kernel_rfl)) ?_; clear hr a; intro a hr
     refine ov hr (vB (r12 != (0 : Int))) (by kernel_rfl) ?_; clear hr a; intro a hr
     by_cases c23 : r12 = (0 : Int)
     ·
      replace H := ifT c23 H
      refine opv (wgt hr (bne_eq_false_iff_eq.mpr c23)) hr (vI r15) (by kernel_rfl) ?_; clear hr a; intro a hr
      refine opv (wgt hr (bne_eq_false_iff_eq.mpr c23)) hr (vB (r15 != (0 : Int))) (by kernel_rfl) ?_; clear hr a; intro a hr
      refine opv (wn rfl) hr (vB (r15 != (0 : Int))) (rp_f (b := (r12 != (0 : Int))) rfl (by kernel_rfl) (bne_eq_false_iff_eq.mpr c23) (by kernel_rfl)) ?_; clear hr a; intro a hr
      refine ov hr (vB (r15 != (0 : Int))) (by kernel_rfl) ?_; clear hr a; intro a hr
      by_cases c24 : r15 = (0 : Int)
      ·
       replace H := ifT c24 H
       refine opv (wgt hr (bne_eq_false_iff_eq.mpr c24)) hr (vI r2) (by kernel_rfl) ?_; clear hr a; intro a hr
       refine opv (wgt hr (bne_eq_false_iff_eq.mpr c24)) hr (vB (r2 != (20 : Int))) (by kernel_rfl) ?_; clear hr a; intro a hr
       refine opv (wn rfl) hr (vB (r2 != (20 : Int))) (rp_f (b := (r15 != (0 : Int))) rfl (by kernel_rfl) (bne_eq_false_iff_eq.mpr c24) (by kernel_rfl)) ?_; clear hr a; intro a hr
       refine ov hr (vB (r2 != (20 : Int))) (by kernel_rfl) ?_; clear hr a; intro a hr
       by_cases c25 : r2 = (20 : Int)
       ·
        replace H := ifT c25 H
        refine opv (wgt hr (bne_eq_false_iff_eq.mpr c25)) hr (vI r4) (by kernel_rfl) ?_; clear hr a; intro a hr
        refine opv (wgt hr (bne_eq_false_iff_eq.mpr c25)) hr (vB (r4 != (20 : Int))) (by kernel_rfl) ?_; clear hr a; intro a hr
        refine opv (wn rfl) hr (vB (r4 != (20 : Int))) (rp_f (b := (r2 != (20 : Int))) rfl (by kernel_rfl) (bne_eq_false_iff_eq.mpr c25) (by kernel_rfl)) ?_; clear hr a; intro a hr
        refine ov hr (vB (r4 != (20 : Int))) (by kernel_rfl) ?_; clear hr a; intro a hr
        by_cases c26 : r4 = (20 : Int)
        ·
         replace H := ifT c26 H
         refine opv (wgt hr (bne_eq_false_iff_eq.mpr c26)) hr (vI r7) (by kernel_rfl) ?_; clear hr a; intro a hr
         refine opv (wgt hr (bne_eq_false_iff_eq.mpr c26)) hr (vB (r7 != (20 : Int))) (by kernel_rfl) ?_; clear hr a; intro a hr
         refine opv (wn rfl) hr (vB (r7 != (20 : Int))) (rp_f (b := (r4 != (20 : Int))) rfl (by kernel_rfl) (bne_eq_false_iff_eq.mpr c26) (by kernel_rfl)) ?_; clear hr a; intro a hr
         refine ov hr (vB (r7 != (20 : Int))) (by kernel_rfl) ?_; clear hr a; intro a hr
         by_cases c27 : r7 = (20 : Int)
         ·
          replace H := ifT c27 H
          refine opv (wgt hr (bne_eq_false_iff_eq.mpr c27)) hr (vI r10) (by kernel_rfl) ?_; clear hr a; intro a hr
          refine opv (wgt hr (bne_eq_false_iff_eq.mpr c27)) hr (vB (r10 != (20 : Int))) (by kernel_rfl) ?_; clear hr a; intro a hr
          refine opv (wn rfl) hr (vB (r10 != (20 : Int))) (rp_f (b := (r7 != (20 : Int))) rfl (by kernel_rfl) (bne_eq_false_iff_eq.mpr c27) (by kernel_rfl)) ?_; clear hr a; intro a hr
          refine ov hr (vB (r10 != (20 : Int))) (by kernel_rfl) ?_; clear hr a; intro a hr
          by_cases c28 : r10 = (20 : Int)
          ·
           replace H := ifT c28 H
           refine opv (wgt hr (bne_eq_false_iff_eq.mpr c28)) hr (vI r13) (by kernel_rfl) ?_; clear hr a; intro a hr
           refine opv (wgt hr (bne_eq_false_iff_eq.mpr c28)) hr (vB (r13 != (22 : Int))) (by kernel_rfl) ?_; clear hr a; intro a hr
           refine opv (wn rfl) hr (vB (r13 != (22 : Int))) (rp_f (b := (r10 != (20 : Int))) rfl (by kernel_rfl) (bne_eq_false_iff_eq.mpr c28) (by kernel_rfl)) ?_; clear hr a; intro a hr
           refine ov hr (vB (r13 != (22 : Int))) (by kernel_rfl) ?_; clear hr a; intro a hr
           by_cases c29 : r13 = (22 : Int)
           ·
            replace H := ifT c29 H
            refine opv (wgt hr (bne_eq_false_iff_eq.mpr c29)) hr (vI r16) (by kernel_rfl) ?_; clear hr a; intro a hr
            refine opv (wgt hr (bne_eq_false_iff_eq.mpr c29)) hr (vB (r16 != (21 : Int))) (by kernel_rfl) ?_; clear hr a; intro a hr
            refine opv (wn rfl) hr (vB (r16 != (21 : Int))) (rp_f (b := (r13 != (22 : Int))) rfl (by kernel_rfl) (bne_eq_false_iff_eq.mpr c29) (by kernel_rfl)) ?_; clear hr a; intro a hr
            refine ln ?_
            by_cases c30 : r16 = (21 : Int)
            ·
             replace H := ifT c30 H
             refine cond_ff hr (b := (r16 != (21 : Int))) (bne_eq_false_iff_eq.mpr c30) ?_
             refine wp_skip ?_
             refine then_normal ?_
             replace hr := hr.fold2 [(0, pN)] (by kernel_rfl); obtain ⟨j, hr⟩ := hr
             exact ⟨(), sinj H, j, hr, h⟩
            ·
             replace H := ifF c30 H
             refine cond_tt hr (b := (r16 != (21 : Int))) (bne_iff_ne.mpr c30) ?_
             refine sr ?_
             refine ov hr (vB false) (by kernel_rfl) ?_; clear hr a; intro a hr
             refine ln ?_
             refine wp_ret ?_
             refine then_ret ?_
             refine end_ret1 (v := vB false) rfl hr (by kernel_rfl) ?_
             replace H := jx0 H hK18
             replace H := ej1 H; subst H
             exact ⟨rfl, h⟩
           ·
            replace H := ifF c29 H
            refine offg (wgt hr (bne_iff_ne.mpr c29)) hr ?_; clear hr a; intro a hr
            refine offg (wgt hr (bne_iff_ne.mpr c29)) hr ?_; clear hr a; intro a hr
            refine opv (wn rfl) hr (vB true) (rp_t (b := (r13 != (22 : Int))) rfl (by kernel_rfl) (bne_iff_ne.mpr c29) (by kernel_rfl)) ?_; clear hr a; intro a hr
            refine ln ?_
            refine cond_tt hr (b := true) rfl ?_
            refine sr ?_
            refine ov hr (vB false) (by kernel_rfl) ?_; clear hr a; intro a hr
            refine ln ?_
            refine wp_ret ?_
            refine then_ret ?_
            refine end_ret1 (v := vB false) rfl hr (by kernel_rfl) ?_
            replace H := jx0 H hK18
            replace H := ej1 H; subst H
            exact ⟨rfl, h⟩
          ·
           replace H := ifF c28 H
           refine offg (wgt hr (bne_iff_ne.mpr c28)) hr ?_; clear hr a; intro a hr
           refine offg (wgt hr (bne_iff_ne.mpr c28)) hr ?_; clear hr a; intro a hr
           refine opv (wn rfl) hr (vB true) (rp_t (b := (r10 != (20 : Int))) rfl (by kernel_rfl) (bne_iff_ne.mpr c28) (by kernel_rfl)) ?_; clear hr a; intro a hr
           refine ov hr (vB true) (by kernel_rfl) ?_; clear hr a; intro a hr
           refine offg (wgt hr (c := true) rfl) hr ?_; clear hr a; intro a hr
           refine offg (wgt hr (c := true) rfl) hr ?_; clear hr a; intro a hr
           refine ov hr (vB true) (by kernel_rfl) ?_; clear hr a; intro a hr
           refine ln ?_
           refine cond_tt hr (b := true) rfl ?_
           refine sr ?_
           refine ov hr (vB false) (by kernel_rfl) ?_; clear hr a; intro a hr
           refine ln ?_
           refine wp_ret ?_
           refine then_ret ?_
           refine end_ret1 (v := vB false) rfl hr (by kernel_rfl) ?_
           replace H := jx0 H hK18
           replace H := ej1 H; subst H
           exact ⟨rfl, h⟩
         ·
          replace H := ifF c27 H
          refine offg (wgt hr (bne_iff_ne.mpr c27)) hr ?_; clear hr a; intro a hr
          refine offg (wgt hr (bne_iff_ne.mpr c27)) hr ?_; clear hr a; intro a hr
          refine opv (wn rfl) hr (vB true) (rp_t (b := (r7 != (20 : Int))) rfl (by kernel_rfl) (bne_iff_ne.mpr c27) (by kernel_rfl)) ?_; clear hr a; intro a hr
          refine ov hr (vB true) (by kernel_rfl) ?_; clear hr a; intro a hr
          refine offg (wgt hr (c := true) rfl) hr ?_; clear hr a; intro a hr
          refine offg (wgt hr (c := true) rfl) hr ?_; clear hr a; intro a hr
          refine ovs [77, 78] [vB true, vB true] hr ⟨rfl, rfl⟩ (by kernel_rfl) ?_; clear hr a; intro a hr
          refine offg (wgt hr (c := true) rfl) hr ?_; clear hr a; intro a hr
          refine offg (wgt hr (c := true) rfl) hr ?_; clear hr a; intro a hr
          refine ov hr (vB true) (by kernel_rfl) ?_; clear hr a; intro a hr
          refine ln ?_
          refine cond_tt hr (b := true) rfl ?_
          refine sr ?_
          refine ov hr (vB false) (by kernel_rfl) ?_; clear hr a; intro a hr
          refine ln ?_
          refine wp_ret ?_
          refine then_ret ?_
          refine end_ret1 (v := vB false) rfl hr (by kernel_rfl) ?_
          replace H := jx0 H hK18
          replace H := ej1 H; subst H
          exact ⟨rfl, h⟩
        ·
         replace H := ifF c26 H
         refine offg (wgt hr (bne_iff_ne.mpr c26)) hr ?_; clear hr a; intro a hr
         refine offg (wgt hr (bne_iff_ne.mpr c26)) hr ?_; clear hr a; intro a hr
         refine opv (wn rfl) hr (vB true) (rp_t (b := (r4 != (20 : Int))) rfl (by kernel_rfl) (bne_iff_ne.mpr c26) (by kernel_rfl)) ?_; clear hr a; intro a hr
         refine ov hr (vB true) (by kernel_rfl) ?_; clear hr a; intro a hr
         refine offg (wgt hr (c := true) rfl) hr ?_; clear hr a; intro a hr
         refine offg (wgt hr (c := true) rfl) hr ?_; clear hr a; intro a hr
         refine ovs [73, 74] [vB true, vB true] hr ⟨rfl, rfl⟩ (by kernel_rfl) ?_; clear hr a; intro a hr
         refine offg (wgt hr (c := true) rfl) hr ?_; clear hr a; intro a hr
         refine offg (wgt hr (c := true) rfl) hr ?_; clear hr a; intro a hr
         refine ovs [77, 78] [vB true, vB true] hr ⟨rfl, rfl⟩ (by kernel_rfl) ?_; clear hr a; intro a hr
         refine offg (wgt hr (c := true) rfl) hr ?_; clear hr a; intro a hr
         refine offg (wgt hr (c := true) rfl) hr ?_; clear hr a; intro a hr
         refine ov hr (vB true) (by kernel_rfl) ?_; clear hr a; intro a hr
         refine ln ?_
         refine cond_tt hr (b := true) rfl ?_
         refine sr ?_
         refine ov hr (vB false) (by kernel_rfl) ?_; clear hr a; intro a hr
         refine ln ?_
         refine wp_ret ?_
         refine then_ret ?_
         refine end_ret1 (v := vB false) rfl hr (by kernel_rfl) ?_
         replace H := jx0 H hK18
         replace H := ej1 H; subst H
         exact ⟨rfl, h⟩
       ·
        replace H := ifF c25 H
        refine offg (wgt hr (bne_iff_ne.mpr c25)) hr ?_; clear hr a; intro a hr
        refine offg (wgt hr (bne_iff_ne.mpr c25)) hr ?_; clear hr a; intro a hr
        refine opv (wn rfl) hr (vB true) (rp_t (b := (r2 != (20 : Int))) rfl (by kernel_rfl) (bne_iff_ne.mpr c25) (by kernel_rfl)) ?_; clear hr a; intro a hr
        refine ov hr (vB true) (by kernel_rfl) ?_; clear hr a; intro a hr
        refine offg (wgt hr (c := true) rfl) hr ?_; clear hr a; intro a hr
        refine offg (wgt hr (c := true) rfl) hr ?_; clear hr a; intro a hr
        refine ovs [69, 70] [vB true, vB true] hr ⟨rfl, rfl⟩ (by kernel_rfl) ?_; clear hr a; intro a hr
        refine offg (wgt hr (c := true) rfl) hr ?_; clear hr a; intro a hr
        refine offg (wgt hr (c := true) rfl) hr ?_; clear hr a; intro a hr
        refine ovs [73, 74] [vB true, vB true] hr ⟨rfl, rfl⟩ (by kernel_rfl) ?_; clear hr a; intro a hr
        refine offg (wgt hr (c := true) rfl) hr ?_; clear hr a; intro a hr
        refine offg (wgt hr (c := true) rfl) hr ?_; clear hr a; intro a hr
        refine ovs [77, 78] [vB true, vB true] hr ⟨rfl, rfl⟩ (by kernel_rfl) ?_; clear hr a; intro a hr
        refine offg (wgt hr (c := true) rfl) hr ?_; clear hr a; intro a hr
        refine offg (wgt hr (c := true) rfl) hr ?_; clear hr a; intro a hr
        refine ov hr (vB true) (by kernel_rfl) ?_; clear hr a; intro a hr
        refine ln ?_
        refine cond_tt hr (b := true) rfl ?_
        refine sr ?_
        refine ov hr (vB false) (by kernel_rfl) ?_; clear hr a; intro a hr
        refine ln ?_
        refine wp_ret ?_
        refine then_ret ?_
        refine end_ret1 (v := vB false) rfl hr (by kernel_rfl) ?_
        replace H := jx0 H hK18
        replace H := ej1 H; subst H
        exact ⟨rfl, h⟩
      ·
       replace H := ifF c24 H
       refine offg (wgt hr (bne_iff_ne.mpr c24)) hr ?_; clear hr a; intro a hr
       refine offg (wgt hr (bne_iff_ne.mpr c24)) hr ?_; clear hr a; intro a hr
       refine opv (wn rfl) hr (vB true) (rp_t (b := (r15 != (0 : Int))) rfl (by kernel_rfl) (bne_iff_ne.mpr c24) (by kernel_rfl)) ?_; clear hr a; intro a hr
       refine ov hr (vB true) (by kernel_rfl) ?_; clear hr a; intro a hr
       refine offg (wgt hr (c := true) rfl) hr ?_; clear hr a; intro a hr
       refine offg (wgt hr (c := true) rfl) hr ?_; clear hr a; intro a hr
       refine ovs [65, 66] [vB true, vB true] hr ⟨rfl, rfl⟩ (by kernel_rfl) ?_; clear hr a; intro a hr
       refine offg (wgt hr (c := true) rfl) hr ?_; clear hr a; intro a hr
       refine offg (wgt hr (c := true) rfl) hr ?_; clear hr a; intro a hr
       refine ovs [69, 70] [vB true, vB true] hr ⟨rfl, rfl⟩ (by kernel_rfl) ?_; clear hr a; intro a hr
       refine offg (wgt hr (c := true) rfl) hr ?_; clear hr a; intro a hr
       refine offg (wgt hr (c := true) rfl) hr ?_; clear hr a; intro a hr
       refine ovs [73, 74] [vB true, vB true] hr ⟨rfl, rfl⟩ (by kernel_rfl) ?_; clear hr a; intro a hr
       refine offg (wgt hr (c := true) rfl) hr ?_; clear hr a; intro a hr
       refine offg (wgt hr (c := true) rfl) hr ?_; clear hr a; intro a hr
       refine ovs [77, 78] [vB true, vB true] hr ⟨rfl, rfl⟩ (by kernel_rfl) ?_; clear hr a; intro a hr
       refine offg (wgt hr (c := true) rfl) hr ?_; clear hr a; intro a hr
       refine offg (wgt hr (c := true) rfl) hr ?_; clear hr a; intro a hr
       refine ov hr (vB true) (by kernel_rfl) ?_; clear hr a; intro a hr
       refine ln ?_
       refine cond_tt hr (b := true) rfl ?_
       refine sr ?_
       refine ov hr (vB false) (by kernel_rfl) ?_; clear hr a; intro a hr
       refine ln ?_
       refine wp_ret ?_
       refine then_ret ?_
       refine end_ret1 (v := vB false) rfl hr (by kernel_rfl) ?_
       replace H := jx0 H hK18
       replace H := ej1 H; subst H
       exact ⟨rfl, h⟩
     ·
      replace H := ifF c23 H
      refine offg (wgt hr (bne_iff_ne.mpr c23)) hr ?_; clear hr a; intro a hr
      refine offg (wgt hr (bne_iff_ne.mpr c23)) hr ?_; clear hr a; intro a hr
      refine opv (wn rfl) hr (vB true) (rp_t (b := (r12 != (0 : Int))) rfl (by kernel_rfl) (bne_iff_ne.mpr c23) (by kernel_rfl)) ?_; clear hr a; intro a hr
      refine ov hr (vB true) (by kernel_rfl) ?_; clear hr a; intro a hr
      refine offg (wgt hr (c := true) rfl) hr ?_; clear hr a; intro a hr
      refine offg (wgt hr (c := true) rfl) hr ?_; clear hr a; intro a hr
      refine ovs [61, 62] [vB true, vB true] hr ⟨rfl, rfl⟩ (by kernel_rfl) ?_; clear hr a; intro a hr
      refine offg (wgt hr (c := true) rfl) hr ?_; clear hr a; intro a hr
      refine offg (wgt hr (c := true) rfl) hr ?_; clear hr a; intro a hr
      refine ovs [65, 66] [vB true, vB true] hr ⟨rfl, rfl⟩ (by kernel_rfl) ?_; clear hr a; intro a hr
      refine offg (wgt hr (c := true) rfl) hr ?_; clear hr a; intro a hr
      refine offg (wgt hr (c := true) rfl) hr ?_; clear hr a; intro a hr
      refine ovs [69, 70] [vB true, vB true] hr ⟨rfl, rfl⟩ (by kernel_rfl) ?_; clear hr a; intro a hr
      refine offg (wgt hr (c := true) rfl) hr ?_; clear hr a; intro a hr
      refine offg (wgt hr (c := true) rfl) hr ?_; clear hr a; intro a hr
      refine ovs [73, 74] [vB true, vB true] hr ⟨rfl, rfl⟩ (by kernel_rfl) ?_; clear hr a; intro a hr
      refine offg (wgt hr (c := true) rfl) hr ?_; clear hr a; intro a hr
      refine offg (wgt hr (c := true) rfl) hr ?_; clear hr a; intro a hr
      refine ovs [77, 78] [vB true, vB true] hr ⟨rfl, rfl⟩ (by kernel_rfl) ?_; clear hr a; intro a hr
      refine offg (wgt hr (c := true) rfl) hr ?_; clear hr a; intro a hr
      refine offg (wgt hr (c := true) rfl) hr ?_; clear hr a; intro a hr
      refine ov hr (vB true) (by kernel_rfl) ?_; clear hr a; intro a hr
      refine ln ?_
      refine cond_tt hr (b := true) rfl ?_
      refine sr ?_
      refine ov hr (vB false) (by kernel_rfl) ?_; clear hr a; intro a hr
      refine ln ?_
      refine wp_ret ?_
      refine then_ret ?_
      refine end_ret1 (v := vB false) rfl hr (by kernel_rfl) ?_
      replace H := jx0 H hK18
      replace H := ej1 H; subst H
      exact ⟨rfl, h⟩
    ·
     replace H := ifF c22 H
     refine offg (wgt hr (bne_iff_ne.mpr c22)) hr ?_; clear hr a; intro a hr
     refine offg (wgt hr (bne_iff_ne.mpr c22)) hr ?_; clear hr a; intro a hr
     refine opv (wn rfl) hr (vB true) (rp_t (b := (r9 != (0 : Int))) rfl (by kernel_rfl) (bne_iff_ne.mpr c22) (by kernel_rfl)) ?_; clear hr a; intro a hr
     refine ov hr (vB true) (by kernel_rfl) ?_; clear hr a; intro a hr
     refine offg (wgt hr (c := true) rfl) hr ?_; clear hr a; intro a hr
     refine offg (wgt hr (c := true) rfl) hr ?_; clear hr a; intro a hr
     refine ovs [57, 58] [vB true, vB true] hr ⟨rfl, rfl⟩ (by kernel_rfl) ?_; clear hr a; intro a hr
     refine offg (wgt hr (c := true) rfl) hr ?_; clear hr a; intro a hr
     refine offg (wgt hr (c := true) rfl) hr ?_; clear hr a; intro a hr
     refine ovs [61, 62] [vB true, vB true] hr ⟨rfl, rfl⟩ (by kernel_rfl) ?_; clear hr a; intro a hr
     refine offg (wgt hr (c := true) rfl) hr ?_; clear hr a; intro a hr
     refine offg (wgt hr (c := true) rfl) hr ?_; clear hr a; intro a hr
     refine ovs [65, 66] [vB true, vB true] hr ⟨rfl, rfl⟩ (by kernel_rfl) ?_; clear hr a; intro a hr
     refine offg (wgt hr (c := true) rfl) hr ?_; clear hr a; intro a hr
     refine offg (wgt hr (c := true) rfl) hr ?_; clear hr a; intro a hr
     refine ovs [69, 70] [vB true, vB true] hr ⟨rfl, rfl⟩ (by kernel_rfl) ?_; clear hr a; intro a hr
     refine offg (wgt hr (c := true) rfl) hr ?_; clear hr a; intro a hr
     refine offg (wgt hr (c := true) rfl) hr ?_; clear hr a; intro a hr
     refine ovs [73, 74] [vB true, vB true] hr ⟨rfl, rfl⟩ (by kernel_rfl) ?_; clear hr a; intro a hr
     refine offg (wgt hr (c := true) rfl) hr ?_; clear hr a; intro a hr
     refine offg (wgt hr (c := true) rfl) hr ?_; clear hr a; intro a hr
     refine ovs [77, 78] [vB true, vB true] hr ⟨rfl, rfl⟩ (by kernel_rfl) ?_; clear hr a; intro a hr
     refine offg (wgt hr (c := true) rfl) hr ?_; clear hr a; intro a hr
     refine offg (wgt hr (c := true) rfl) hr ?_; clear hr a; intro a hr
     refine ov hr (vB true) (by kernel_rfl) ?_; clear hr a; intro a hr
     refine ln ?_
     refine cond_tt hr (b := true) rfl ?_
     refine sr ?_
     refine ov hr (vB false) (by kernel_rfl) ?_; clear hr a; intro a hr
     refine ln ?_
     refine wp_ret ?_
     refine then_ret ?_
     refine end_ret1 (v := vB false) rfl hr (by kernel_rfl) ?_
     replace H := jx0 H hK18
     replace H := ej1 H; subst H
     exact ⟨rfl, h⟩
  ·
   replace H := ifF c20 H
   refine offg (wgt hr (bne_iff_ne.mpr c20)) hr ?_; clear hr a; intro a hr
   refine opv (wn rfl) hr (vB true) (rp_t (b := (r1 != (0 : Int))) rfl (by kernel_rfl) (bne_iff_ne.mpr c20) (by kernel_rfl)) ?_; clear hr a; intro a hr
   refine ov hr (vB true) (by kernel_rfl) ?_; clear hr a; intro a hr
   refine offg (wgt hr (c := true) rfl) hr ?_; clear hr a; intro a hr
   refine offg (wgt hr (c := true) rfl) hr ?_; clear hr a; intro a hr
   refine ovs [49, 50] [vB true, vB true] hr ⟨rfl, rfl⟩ (by kernel_rfl) ?_; clear hr a; intro a hr
   refine offg (wgt hr (c := true) rfl) hr ?_; clear hr a; intro a hr
   refine offg (wgt hr (c := true) rfl) hr ?_; clear hr a; intro a hr
   refine ovs [53, 54] [vB true, vB true] hr ⟨rfl, rfl⟩ (by kernel_rfl) ?_; clear hr a; intro a hr
   refine offg (wgt hr (c := true) rfl) hr ?_; clear hr a; intro a hr
   refine offg (wgt hr (c := true) rfl) hr ?_; clear hr a; intro a hr
   refine ovs [57, 58] [vB true, vB true] hr ⟨rfl, rfl⟩ (by kernel_rfl) ?_; clear hr a; intro a hr
   refine offg (wgt hr (c := true) rfl) hr ?_; clear hr a; intro a hr
   refine offg (wgt hr (c := true) rfl) hr ?_; clear hr a; intro a hr
   refine ovs [61, 62] [vB true, vB true] hr ⟨rfl, rfl⟩ (by kernel_rfl) ?_; clear hr a; intro a hr
   refine offg (wgt hr (c := true) rfl) hr ?_; clear hr a; intro a hr
   refine offg (wgt hr (c := true) rfl) hr ?_; clear hr a; intro a hr
   refine ovs [65, 66] [vB true, vB true] hr ⟨rfl, rfl⟩ (by kernel_rfl) ?_; clear hr a; intro a hr
   refine offg (wgt hr (c := true) rfl) hr ?_; clear hr a; intro a hr
   refine offg (wgt hr (c := true) rfl) hr ?_; clear hr a; intro a hr
   refine ovs [69, 70] [vB true, vB true] hr ⟨rfl, rfl⟩ (by kernel_rfl) ?_; clear hr a; intro a hr
   refine offg (wgt hr (c := true) rfl) hr ?_; clear hr a; intro a hr
   refine offg (wgt hr (c := true) rfl) hr ?_; clear hr a; intro a hr
   refine ovs [73, 74] [vB true, vB true] hr ⟨rfl, rfl⟩ (by kernel_rfl) ?_; clear hr a; intro a hr
   refine offg (wgt hr (c := true) rfl) hr ?_; clear hr a; intro a hr
   refine offg (wgt hr (c := true) rfl) hr ?_; clear hr a; intro a hr
   refine ovs [77, 78] [vB true, vB true] hr ⟨rfl, rfl⟩ (by kernel_rfl) ?_; clear hr a; intro a hr
   refine offg (wgt hr (c := true) rfl) hr ?_; clear hr a; intro a hr
   refine offg (wgt hr (c := true) rfl) hr ?_; clear hr a; intro a hr
   refine ov hr (vB true) (by kernel_rfl) ?_; clear hr a; intro a hr
   refine ln ?_
   refine cond_tt hr (b := true) rfl ?_
   refine sr ?_
   refine ov hr (vB false) (by kernel_rfl) ?_; clear hr a; intro a hr
   refine ln ?_
   refine wp_ret ?_
   refine then_ret ?_
   refine end_ret1 (v := vB false) rfl hr (by kernel_rfl) ?_
   replace H := jx0 H hK18
   replace H := ej1 H; subst H
   exact ⟨rfl, h⟩
 clear h hr a; rintro _ a w ⟨rfl, j, hr, h⟩
 replace H := jk0 hK18
 refine sr ?_
 replace H := bd1 H; obtain ⟨r31, e32, H⟩ := H
 refine ov hr (pN) (by kernel_rfl) ?_; clear hr a; intro a hr
 have hc := cells_Shared_Size_nil_ok (H := e32) (h := h)
 refine op_call (wn rfl) rfl rfl hr (f := 32) (args := #[pN]) (by kernel_rfl) hc ?_; clear hc h
 rintro _ w ⟨rfl, h⟩; refine ⟨_, rfl, ?_⟩
 clear hr a; intro a hr
 refine ovs [84, 85] [vB (r31 == (0 : Int)), vB (r31 == (0 : Int))] hr ⟨rfl, rfl⟩ (by kernel_rfl) ?_; clear hr a; intro a hr
 by_cases c33 : r31 = (0 : Int)
 ·
  replace H := ifT c33 H
  refine opv (wgt hr (beq_iff_eq.mpr c33)) hr (pN) (by kernel_rfl) ?_; clear hr a; intro a hr
  replace H := bd1 H; obtain ⟨r34, e35, H⟩ := H
  have hc := cells_Shared_Mark_nil_ok (H := e35) (h := h)
  refine op_call (wgt hr (beq_iff_eq.mpr c33)) rfl rfl hr (f := 33) (args := #[pN]) (by kernel_rfl) hc ?_; clear hc h
  rintro _ w ⟨rfl, h⟩; refine ⟨_, rfl, ?_⟩
  clear hr a; intro a hr
  refine opv (wgt hr (beq_iff_eq.mpr c33)) hr (vB (r34 == (0 : Int))) (by kernel_rfl) ?_; clear hr a; intro a hr
  refine opv (wn rfl) hr (vB (r34 == (0 : Int))) (rp_t (b := (r31 == (0 : Int))) rfl (by kernel_rfl) (beq_iff_eq.mpr c33) (by kernel_rfl)) ?_; clear hr a; intro a hr
  refine ov hr (vB (r34 == (0 : Int))) (by kernel_rfl) ?_; clear hr a; intro a hr
  refine ln ?_
  refine wp_ret ?_
  refine end_ret1 (v := vB (r34 == (0 : Int))) rfl hr (by kernel_rfl) ?_
  replace H := ej1 H; subst H
  exact ⟨rfl, h⟩
 ·
  replace H := ifF c33 H
  refine offg (wgt hr (beq_eq_false_iff_ne.mpr c33)) hr ?_; clear hr a; intro a hr
  refine offg (wgt hr (beq_eq_false_iff_ne.mpr c33)) hr ?_; clear hr a; intro a hr
  refine offg (wgt hr (beq_eq_false_iff_ne.mpr c33)) hr ?_; clear hr a; intro a hr
  refine opv (wn rfl) hr (vB false) (rp_f (b := (r31 == (0 : Int))) rfl (by kernel_rfl) (beq_eq_false_iff_ne.mpr c33) (by kernel_rfl)) ?_; clear hr a; intro a hr
  refine ov hr (vB false) (by kernel_rfl) ?_; clear hr a; intro a hr
  refine ln ?_
  refine wp_ret ?_
  refine end_ret1 (v := vB false) rfl hr (by kernel_rfl) ?_
  replace H := ej1 H; subst H
  exact ⟨rfl, h⟩

/-- (*plunder/cells.Arena).Watch -/
def cells_Arena_Watch (p0 : T_cells_Arena) (p1 : Bool) : Option (T_cells_Arena) :=
  some ({ p0 with watched := p1 })
set_option maxRecDepth 100000 in
set_option maxHeartbeats 4000000 in
theorem cells_Arena_Watch_ok {z w : World} {L : List HProp} {p0 : T_cells_Arena} {p1 : Bool} {B0 : Nat} {ca1 : Option Addr} {cc2 : Nat} {ca3 : Option Addr} {cc4 : Nat} {q0 : T_cells_Arena} (H : cells_Arena_Watch p0 p1 = some q0) (h : Fit z (sepL (ob96 B0 p0 ca1 cc2 ca3 cc4 :: ro2 ca1 cc2 p0.cell :: ro90 ca3 cc4 p0.log :: L)) w)  :
    Calls Try.prog 88 #[pA B0 0, vB p1] w fun e w => ∃ caq0_1 : Option Addr, ∃ ccq0_2 : Nat, ∃ caq0_3 : Option Addr, ∃ ccq0_4 : Nat, e = .returned (.tuple #[]) ∧ Fit z (sepL (ob96 B0 q0 caq0_1 ccq0_2 caq0_3 ccq0_4 :: ro2 caq0_1 ccq0_2 q0.cell :: ro90 caq0_3 ccq0_4 q0.log :: L)) w := by
 unfold cells_Arena_Watch at H
 refine enter Try.func88 rfl 10 rfl rfl [(0, pA B0 0), (1, vB p1)] ⟨rfl, rfl, trivial⟩ ?_
 intro j a hr
 refine sr ?_
 refine ovs [4, 5] [pA B0 0, vB true] hr ⟨rfl, rfl⟩ (by kernel_rfl) ?_; clear hr a; intro a hr
 refine ln ?_
 refine cond_tt hr (b := true) rfl ?_
 refine wp_region_lit ?_
 refine ovs [6, 7, 8, 9] [pA B0 0, vB p1, pA B0 0, pA B0 5] hr ⟨rfl, rfl⟩ (by kernel_rfl) ?_; clear hr a; intro a hr
 refine op_store (wn rfl) rfl hr rfl (by kernel_rfl) (by kernel_rfl) (v := vB p1) rfl rfl (by kernel_rfl) h (i := 5) rfl ?_; clear h; intro w h
 refine wpList_nil ?_
 replace h : Fit z (sepL (pts B0 (.cells #[vI p0.ledger_size, vI p0.ledger_mark, .slice ca1 p0.cell.length cc2, .slice ca3 p0.log.length cc4, vI p0.actor, vB p1] 96) :: ro2 ca1 cc2 p0.cell :: ro90 ca3 cc4 p0.log :: L)) _ := h
 refine end_norm0 rfl hr ?_
 replace H := ej1 H; subst H
 exact ⟨ca1, cc2, ca3, cc4, rfl, h⟩

/-- (*plunder/cells.Arena).Who -/
def cells_Arena_Who (p0 : T_cells_Arena) (p1 : Int) : Option (T_cells_Arena) :=
  some ({ p0 with actor := p1 })
set_option maxRecDepth 100000 in
set_option maxHeartbeats 4000000 in
theorem cells_Arena_Who_ok {z w : World} {L : List HProp} {p0 : T_cells_Arena} {p1 : Int} {B0 : Nat} {ca1 : Option Addr} {cc2 : Nat} {ca3 : Option Addr} {cc4 : Nat} {q0 : T_cells_Arena} (H : cells_Arena_Who p0 p1 = some q0) (h : Fit z (sepL (ob96 B0 p0 ca1 cc2 ca3 cc4 :: ro2 ca1 cc2 p0.cell :: ro90 ca3 cc4 p0.log :: L)) w)  :
    Calls Try.prog 96 #[pA B0 0, vI p1] w fun e w => ∃ caq0_1 : Option Addr, ∃ ccq0_2 : Nat, ∃ caq0_3 : Option Addr, ∃ ccq0_4 : Nat, e = .returned (.tuple #[]) ∧ Fit z (sepL (ob96 B0 q0 caq0_1 ccq0_2 caq0_3 ccq0_4 :: ro2 caq0_1 ccq0_2 q0.cell :: ro90 caq0_3 ccq0_4 q0.log :: L)) w := by
 unfold cells_Arena_Who at H
 refine enter Try.func96 rfl 10 rfl rfl [(0, pA B0 0), (1, vI p1)] ⟨rfl, rfl, trivial⟩ ?_
 intro j a hr
 refine sr ?_
 refine ovs [4, 5] [pA B0 0, vB true] hr ⟨rfl, rfl⟩ (by kernel_rfl) ?_; clear hr a; intro a hr
 refine ln ?_
 refine cond_tt hr (b := true) rfl ?_
 refine wp_region_lit ?_
 refine ovs [6, 7, 8, 9] [pA B0 0, vI p1, pA B0 0, pA B0 4] hr ⟨rfl, rfl⟩ (by kernel_rfl) ?_; clear hr a; intro a hr
 refine op_store (wn rfl) rfl hr rfl (by kernel_rfl) (by kernel_rfl) (v := vI p1) rfl rfl (by kernel_rfl) h (i := 4) rfl ?_; clear h; intro w h
 refine wpList_nil ?_
 replace h : Fit z (sepL (pts B0 (.cells #[vI p0.ledger_size, vI p0.ledger_mark, .slice ca1 p0.cell.length cc2, .slice ca3 p0.log.length cc4, vI p1, vB p0.watched] 96) :: ro2 ca1 cc2 p0.cell :: ro90 ca3 cc4 p0.log :: L)) _ := h
 refine end_norm0 rfl hr ?_
 replace H := ej1 H; subst H
 exact ⟨ca1, cc2, ca3, cc4, rfl, h⟩

/-- (*plunder/cells.ledger).has -/
def cells_ledger_has (p0 : T_cells_Arena) (p1 : Int) : Option (Bool) :=
  (if p1 ≥ (0 : Int) then some (decide (p1 < p0.ledger_mark)) else some false)
set_option maxRecDepth 100000 in
set_option maxHeartbeats 4000000 in
theorem cells_ledger_has_ok {z w : World} {L : List HProp} {p0 : T_cells_Arena} {p1 : Int} {B0 : Nat} {ca1 : Option Addr} {cc2 : Nat} {ca3 : Option Addr} {cc4 : Nat} {r0 : Bool} (H : cells_ledger_has p0 p1 = some r0) (h : Fit z (sepL (ob96 B0 p0 ca1 cc2 ca3 cc4 :: ro2 ca1 cc2 p0.cell :: ro90 ca3 cc4 p0.log :: L)) w)  :
    Calls Try.prog 100 #[pA B0 0, vI p1] w fun e w => e = .returned (vB r0) ∧ Fit z (sepL (ob96 B0 p0 ca1 cc2 ca3 cc4 :: ro2 ca1 cc2 p0.cell :: ro90 ca3 cc4 p0.log :: L)) w := by
 unfold cells_ledger_has at H
 refine enter Try.func100 rfl 15 rfl rfl [(0, pA B0 0), (1, vI p1)] ⟨rfl, rfl, trivial⟩ ?_
 intro j a hr
 refine sr ?_
 refine ov hr (vB false) (by kernel_rfl) ?_; clear hr a; intro a hr
 refine ln ?_
 refine sr ?_
 refine ovs [5, 6, 7] [vI p1, vB (decide (p1 ≥ (0 : Int))), vB (decide (p1 ≥ (0 : Int)))] hr ⟨rfl, rfl⟩ (by kernel_rfl) ?_; clear hr a; intro a hr
 by_cases c5 : p1 ≥ (0 : Int)
 ·
  replace H := ifT c5 H
  refine opv (wgt hr (decide_eq_true c5)) hr (vI p1) (by kernel_rfl) ?_; clear hr a; intro a hr
  refine opv (wgt hr (decide_eq_true c5)) hr (pA B0 0) (by kernel_rfl) ?_; clear hr a; intro a hr
  refine opv (wgt hr (decide_eq_true c5)) hr (pA B0 0) (by kernel_rfl) ?_; clear hr a; intro a hr
  refine opv (wgt hr (decide_eq_true c5)) hr (pA B0 1) (by kernel_rfl) ?_; clear hr a; intro a hr
  refine ld (wgt hr (decide_eq_true c5)) hr (vI p0.ledger_mark) (h.cell 1 rfl) ?_; clear hr a; intro a hr
  refine opv (wgt hr (decide_eq_true c5)) hr (vB (decide (p1 < p0.ledger_mark))) (by kernel_rfl) ?_; clear hr a; intro a hr
  refine opv (wn rfl) hr (vB (decide (p1 < p0.ledger_mark))) (rp_t (b := (decide (p1 ≥ (0 : Int)))) rfl (by kernel_rfl) (decide_eq_true c5) (by kernel_rfl)) ?_; clear hr a; intro a hr
  refine ov hr (vB (decide (p1 < p0.ledger_mark))) (by kernel_rfl) ?_; clear hr a; intro a hr
  refine ln ?_
  refine wp_ret ?_
  refine end_ret1 (v := vB (decide (p1 < p0.ledger_mark))) rfl hr (by kernel_rfl) ?_
  replace H := ej1 H; subst H
  exact ⟨rfl, h⟩
 ·
  replace H := ifF c5 H
  refine offg (wgt hr (decide_eq_false c5)) hr ?_; clear hr a; intro a hr
  refine offg (wgt hr (decide_eq_false c5)) hr ?_; clear hr a; intro a hr
  refine offg (wgt hr (decide_eq_false c5)) hr ?_; clear hr a; intro a hr
  refine offg (wgt hr (decide_eq_false c5)) hr ?_; clear hr a; intro a hr
  refine offg (wgt hr (decide_eq_false c5)) hr ?_; clear hr a; intro a hr
  refine offg (wgt hr (decide_eq_false c5)) hr ?_; clear hr a; intro a hr
  refine opv (wn rfl) hr (vB false) (rp_f (b := (decide (p1 ≥ (0 : Int)))) rfl (by kernel_rfl) (decide_eq_false c5) (by kernel_rfl)) ?_; clear hr a; intro a hr
  refine ov hr (vB false) (by kernel_rfl) ?_; clear hr a; intro a hr
  refine ln ?_
  refine wp_ret ?_
  refine end_ret1 (v := vB false) rfl hr (by kernel_rfl) ?_
  replace H := ej1 H; subst H
  exact ⟨rfl, h⟩

/-- (*plunder/cells.Arena).outside -/
def cells_Arena_outside (p0 : T_cells_Arena) (p1 : Int) : Option (Bool) :=
  ob1 (cells_ledger_has p0 p1) (fun r5 => some (!r5))
set_option maxRecDepth 100000 in
set_option maxHeartbeats 4000000 in
theorem cells_Arena_outside_ok {z w : World} {L : List HProp} {p0 : T_cells_Arena} {p1 : Int} {B0 : Nat} {ca1 : Option Addr} {cc2 : Nat} {ca3 : Option Addr} {cc4 : Nat} {r0 : Bool} (H : cells_Arena_outside p0 p1 = some r0) (h : Fit z (sepL (ob96 B0 p0 ca1 cc2 ca3 cc4 :: ro2 ca1 cc2 p0.cell :: ro90 ca3 cc4 p0.log :: L)) w)  :
    Calls Try.prog 65 #[pA B0 0, vI p1] w fun e w => e = .returned (vB r0) ∧ Fit z (sepL (ob96 B0 p0 ca1 cc2 ca3 cc4 :: ro2 ca1 cc2 p0.cell :: ro90 ca3 cc4 p0.log :: L)) w := by
 unfold cells_Arena_outside at H
 refine enter Try.func65 rfl 15 rfl rfl [(0, pA B0 0), (1, vI p1)] ⟨rfl, rfl, trivial⟩ ?_
 intro j a hr
 refine sr ?_
 refine ov hr (vB false) (by kernel_rfl) ?_; clear hr a; intro a hr
 refine ln ?_
 refine sr ?_
 refine ovs [5, 6, 7] [pA B0 0, vB false, vB false] hr ⟨rfl, rfl⟩ (by kernel_rfl) ?_; clear hr a; intro a hr
 refine opv (wgt hr (c := false) rfl) hr (pA B0 0) (by kernel_rfl) ?_; clear hr a; intro a hr
 refine opv (wgt hr (c := false) rfl) hr (pA B0 0) (by kernel_rfl) ?_; clear hr a; intro a hr
 refine opv (wgt hr (c := false) rfl) hr (pA B0 0) (by kernel_rfl) ?_; clear hr a; intro a hr
 refine opv (wgt hr (c := false) rfl) hr (vI p1) (by kernel_rfl) ?_; clear hr a; intro a hr
 replace H := bd1 H; obtain ⟨r5, e6, H⟩ := H
 have hc := cells_ledger_has_ok (H := e6) (h := h)
 refine op_call (wgt hr (c := false) rfl) rfl rfl hr (f := 100) (args := #[pA B0 0, vI p1]) (by kernel_rfl) hc ?_; clear hc h
 rintro _ w ⟨rfl, h⟩; refine ⟨_, rfl, ?_⟩
 clear hr a; intro a hr
 refine opv (wgt hr (c := false) rfl) hr (vB (!r5)) (by kernel_rfl) ?_; clear hr a; intro a hr
 refine ovs [14, 4] [vB (!r5), vB (!r5)] hr ⟨rfl, rfl⟩ (by kernel_rfl) ?_; clear hr a; intro a hr
 refine ln ?_
 refine wp_ret ?_
 refine end_ret1 (v := vB (!r5)) rfl hr (by kernel_rfl) ?_
 replace H := ej1 H; subst H
 exact ⟨rfl, h⟩

/-- (*plunder/cells.Arena).note -/
def cells_Arena_note (p0 : T_cells_Arena) (p1 : Int) (p2 : Int) (p3 : Int) (p4 : Int) (p5 : Bool) : Option (T_cells_Arena) :=
  (if p0.watched = true then if (p0.log.length + 1) * 48 ≤ 140737488355328 then some ({ p0 with log := p0.log ++ [(⟨p0.actor, p1, p2, p3, p4, p5⟩ : T_api_Access)] }) else none else some p0)
set_option maxRecDepth 100000 in
set_option maxHeartbeats 4000000 in
theorem cells_Arena_note_ok {z w : World} {L : List HProp} {p0 : T_cells_Arena} {p1 : Int} {p2 : Int} {p3 : Int} {p4 : Int} {p5 : Bool} {B0 : Nat} {ca1 : Option Addr} {cc2 : Nat} {ca3 : Option Addr} {cc4 : Nat} {q0 : T_cells_Arena} (H : cells_Arena_note p0 p1 p2 p3 p4 p5 = some q0) (h : Fit z (sepL (ob96 B0 p0 ca1 cc2 ca3 cc4 :: ro2 ca1 cc2 p0.cell :: ro90 ca3 cc4 p0.log :: L)) w)  :
    Calls Try.prog 64 #[pA B0 0, vI p1, vI p2, vI p3, vI p4, vB p5] w fun e w => ∃ caq0_1 : Option Addr, ∃ ccq0_2 : Nat, ∃ caq0_3 : Option Addr, ∃ ccq0_4 : Nat, e = .returned (.tuple #[]) ∧ Fit z (sepL (ob96 B0 q0 caq0_1 ccq0_2 caq0_3 ccq0_4 :: ro2 caq0_1 ccq0_2 q0.cell :: ro90 caq0_3 ccq0_4 q0.log :: L)) w := by
 unfold cells_Arena_note at H
 refine enter Try.func64 rfl 35 rfl rfl [(0, pA B0 0), (1, vI p1), (2, vI p2), (3, vI p3), (4, vI p4), (5, vB p5)] ⟨rfl, rfl, rfl, rfl, rfl, rfl, trivial⟩ ?_
 intro j a hr
 refine sr ?_
 refine ovs [12, 13, 14] [pA B0 0, pA B0 0, pA B0 5] hr ⟨rfl, rfl⟩ (by kernel_rfl) ?_; clear hr a; intro a hr
 refine ld (wn rfl) hr (vB p0.watched) (h.cell 5 rfl) ?_; clear hr a; intro a hr
 refine ln ?_
 by_cases c5 : p0.watched = true
 ·
  replace H := ifT c5 H
  refine cond_tt hr (b := p0.watched) (c5) ?_
  replace H := gd H; obtain ⟨c9, H⟩ := H
  refine reg_E (fun w => heldC w B0 3 ([.slice ca3 p0.log.length cc4]) ∧ heldC w B0 4 ([vI p0.actor]) ∧ True) [2, 3, 6, 7, 14] h (by kernel_rfl) ?_; intro w h
  change wpAnyE _ _ _ _ _ _ 20 (Array.replicate 20 false) a w
  have hgo : ∀ w w', CellsGo w w' → (heldC w B0 3 ([.slice ca3 p0.log.length cc4]) ∧ heldC w B0 4 ([vI p0.actor]) ∧ True) → heldC w' B0 3 ([.slice ca3 p0.log.length cc4]) ∧ heldC w' B0 4 ([vI p0.actor]) ∧ True := fun w w' g hD => ⟨heldC_go _ _ _ _ _ g hD.1, heldC_go _ _ _ _ _ g hD.2.1, trivial⟩
  refine ev 19 0 rfl (by kernel_rfl) (wn rfl) hr (pA B0 0) (fun w => by kernel_rfl) ?_; clear hr a; intro a hr
  refine ev 18 1 rfl (by kernel_rfl) (wn rfl) hr (pA B0 0) (fun w => by kernel_rfl) ?_; clear hr a; intro a hr
  refine evD hgo ⟨⟨h.cell 3 rfl, trivial⟩, ⟨h.cell 4 rfl, trivial⟩, trivial⟩ 17 2 rfl (by kernel_rfl) (wn rfl) hr (pA B0 0) (fun w => by kernel_rfl) ?_; clear hr a; intro a hr
  refine evD hgo ⟨⟨h.cell 3 rfl, trivial⟩, ⟨h.cell 4 rfl, trivial⟩, trivial⟩ 16 3 rfl (by kernel_rfl) (wn rfl) hr (pA B0 3) (fun w => by kernel_rfl) ?_; clear hr a; intro a hr
  refine ev 15 5 rfl (by kernel_rfl) (wn rfl) hr (pA B0 0) (fun w => by kernel_rfl) ?_; clear hr a; intro a hr
  refine evD hgo ⟨⟨h.cell 3 rfl, trivial⟩, ⟨h.cell 4 rfl, trivial⟩, trivial⟩ 14 6 rfl (by kernel_rfl) (wn rfl) hr (pA B0 0) (fun w => by kernel_rfl) ?_; clear hr a; intro a hr
  refine evD hgo ⟨⟨h.cell 3 rfl, trivial⟩, ⟨h.cell 4 rfl, trivial⟩, trivial⟩ 13 7 rfl (by kernel_rfl) (wn rfl) hr (pA B0 4) (fun w => by kernel_rfl) ?_; clear hr a; intro a hr
  refine ev 12 9 rfl (by kernel_rfl) (wn rfl) hr (vI p1) (fun w => by kernel_rfl) ?_; clear hr a; intro a hr
  refine ev 11 10 rfl (by kernel_rfl) (wn rfl) hr (vI p2) (fun w => by kernel_rfl) ?_; clear hr a; intro a hr
  refine ev 10 11 rfl (by kernel_rfl) (wn rfl) hr (vI p3) (fun w => by kernel_rfl) ?_; clear hr a; intro a hr
  refine ev 9 12 rfl (by kernel_rfl) (wn rfl) hr (vI p4) (fun w => by kernel_rfl) ?_; clear hr a; intro a hr
  refine ev 8 13 rfl (by kernel_rfl) (wn rfl) hr (vB p5) (fun w => by kernel_rfl) ?_; clear hr a; intro a hr
  refine el [2, 3, 6, 7, 14] (b := B0) (off := 3) (cs := [.slice ca3 p0.log.length cc4]) (fun _ hk => ⟨hk, fun w hD => hD.1⟩) 7 4 rfl (by kernel_rfl) (wn rfl) hr (.slice ca3 p0.log.length cc4) ⟨h.cell 3 rfl, trivial⟩ (fun w hc => rl rfl (by kernel_rfl) (by kernel_rfl) hc.1) ?_; clear hr a; intro a hr
  refine el [2, 3, 6, 7, 14] (b := B0) (off := 4) (cs := [vI p0.actor]) (fun _ hk => ⟨hk, fun w hD => hD.2.1⟩) 6 8 rfl (by kernel_rfl) (wn rfl) hr (vI p0.actor) ⟨h.cell 4 rfl, trivial⟩ (fun w hc => rl rfl (by kernel_rfl) (by kernel_rfl) hc.1) ?_; clear hr a; intro a hr
  refine evD hgo ⟨⟨h.cell 3 rfl, trivial⟩, ⟨h.cell 4 rfl, trivial⟩, trivial⟩ 5 14 rfl (by kernel_rfl) (wn rfl) hr (.agg #[vI p0.actor, vI p1, vI p2, vI p3, vI p4, vB p5]) (fun w => by kernel_rfl) ?_; clear hr a; intro a hr
  refine e_one (fuel := 4) (i := 15) (by kernel_rfl) rfl ?_
  refine op_new (wn rfl) rfl rfl hr h (vf := fun b => .slice (some ⟨b, 0, none⟩) 1 1) (cs := #[vI p0.actor, vI p1, vI p2, vI p3, vI p4, vB p5]) (T := 90) (by kernel_rfl) ?_; clear h hr a; intro b6 w a h hr
  refine wpList_nil ?_; refine then_normal ?_
  refine ⟨fun hE => absurd hE (by decide), ?_⟩
  refine e_one (fuel := 3) (i := 16) (by kernel_rfl) rfl ?_
  replace h : Fit z (sepL (ro90 ca3 cc4 p0.log :: pts b6 (.cells #[vI p0.actor, vI p1, vI p2, vI p3, vI p4, vB p5] 90) :: ob96 B0 p0 ca1 cc2 ca3 cc4 :: ro2 ca1 cc2 p0.cell :: L)) _ := h.sel 4 [3, 0, 1, 2] (by kernel_rfl) (by kernel_rfl)
  refine op_append (n0 := p0.log.length) (c := 1) (bytes := 48) (wn rfl) rfl rfl hr rfl (by kernel_rfl) (by kernel_rfl) enc_T_api_Access_ok (E := 90) (xs := p0.log) (by kernel_rfl) (by kernel_rfl) h (news := [(⟨p0.actor, p1, p2, p3, p4, p5⟩ : T_api_Access)]) (m := 1) rfl ((h.pick 1).news rfl) c9 rfl ?_; clear h hr a; intro ca7 cc8 w a h hr
  refine wpList_nil ?_; refine then_normal ?_
  replace h : Fit z (sepL (ro90 ca7 cc8 (p0.log ++ [(⟨p0.actor, p1, p2, p3, p4, p5⟩ : T_api_Access)]) :: pts b6 (.cells #[vI p0.actor, vI p1, vI p2, vI p3, vI p4, vB p5] 90) :: ob96 B0 p0 ca1 cc2 ca3 cc4 :: ro2 ca1 cc2 p0.cell :: L)) _ := h
  refine ⟨fun hE => absurd hE (by decide), ?_⟩
  refine ev 2 17 rfl (by kernel_rfl) (wn rfl) hr (pA B0 0) (fun w => by kernel_rfl) ?_; clear hr a; intro a hr
  refine ev 1 18 rfl (by kernel_rfl) (wn rfl) hr (pA B0 3) (fun w => by kernel_rfl) ?_; clear hr a; intro a hr
  refine e_one (fuel := 0) (i := 19) (by kernel_rfl) rfl ?_
  replace h : Fit z (sepL (ob96 B0 p0 ca1 cc2 ca3 cc4 :: ro90 ca7 cc8 (p0.log ++ [(⟨p0.actor, p1, p2, p3, p4, p5⟩ : T_api_Access)]) :: pts b6 (.cells #[vI p0.actor, vI p1, vI p2, vI p3, vI p4, vB p5] 90) :: ro2 ca1 cc2 p0.cell :: L)) _ := h.sel 4 [2, 0, 1, 3] (by kernel_rfl) (by kernel_rfl)
  refine op_store (wn rfl) rfl hr rfl (by kernel_rfl) (by kernel_rfl) (v := .slice ca7 ((p0.log ++ [(⟨p0.actor, p1, p2, p3, p4, p5⟩ : T_api_Access)]).length) cc8) rfl rfl (by kernel_rfl) h (i := 3) rfl ?_; clear h; intro w h
  refine wpList_nil ?_; refine then_normal ?_
  replace h : Fit z (sepL (pts B0 (.cells #[vI p0.ledger_size, vI p0.ledger_mark, .slice ca1 p0.cell.length cc2, .slice ca7 ((p0.log ++ [(⟨p0.actor, p1, p2, p3, p4, p5⟩ : T_api_Access)]).length) cc8, vI p0.actor, vB p0.watched] 96) :: ro90 ca7 cc8 (p0.log ++ [(⟨p0.actor, p1, p2, p3, p4, p5⟩ : T_api_Access)]) :: pts b6 (.cells #[vI p0.actor, vI p1, vI p2, vI p3, vI p4, vB p5] 90) :: ro2 ca1 cc2 p0.cell :: L)) _ := h
  refine ⟨fun hE => absurd hE (by decide), ?_⟩
  refine e_end (by kernel_rfl) ?_
  refine end_norm0 rfl hr ?_
  replace h : Fit z (sepL (pts B0 (.cells #[vI p0.ledger_size, vI p0.ledger_mark, .slice ca1 p0.cell.length cc2, .slice ca7 ((p0.log ++ [(⟨p0.actor, p1, p2, p3, p4, p5⟩ : T_api_Access)]).length) cc8, vI p0.actor, vB p0.watched] 96) :: ro2 ca1 cc2 p0.cell :: ro90 ca7 cc8 (p0.log ++ [(⟨p0.actor, p1, p2, p3, p4, p5⟩ : T_api_Access)]) :: L)) _ := h.sel 4 [0, 3, 1] (by kernel_rfl) (by kernel_rfl)
  replace H := ej1 H; subst H
  exact ⟨ca1, cc2, ca7, cc8, rfl, h⟩
 ·
  replace H := ifF c5 H
  refine cond_ff hr (b := p0.watched) (bF c5) ?_
  refine wp_skip ?_
  refine end_norm0 rfl hr ?_
  replace H := ej1 H; subst H
  exact ⟨ca1, cc2, ca3, cc4, rfl, h⟩

/-- (*plunder/cells.Arena).Load -/
def cells_Arena_Load (p0 : T_cells_Arena) (p1 : Int) : Option (Int × Int × T_cells_Arena) :=
  ob1 (cells_Arena_outside p0 p1) (fun r5 => (if r5 = true then some (0, 20, p0) else if inr_ p1 p0.cell.length then ob1 (cells_Arena_note p0 0 p1 (at_ p0.cell p1.toNat) 0 true) (fun S9 => some ((at_ p0.cell p1.toNat), 0, S9)) else none))
set_option maxRecDepth 100000 in
set_option maxHeartbeats 4000000 in
theorem cells_Arena_Load_ok {z w : World} {L : List HProp} {p0 : T_cells_Arena} {p1 : Int} {B0 : Nat} {ca1 : Option Addr} {cc2 : Nat} {ca3 : Option Addr} {cc4 : Nat} {r0 : Int} {r1 : Int} {q0 : T_cells_Arena} (H : cells_Arena_Load p0 p1 = some (r0, r1, q0)) (h : Fit z (sepL (ob96 B0 p0 ca1 cc2 ca3 cc4 :: ro2 ca1 cc2 p0.cell :: ro90 ca3 cc4 p0.log :: L)) w)  :
    Calls Try.prog 66 #[pA B0 0, vI p1] w fun e w => ∃ caq0_1 : Option Addr, ∃ ccq0_2 : Nat, ∃ caq0_3 : Option Addr, ∃ ccq0_4 : Nat, e = .returned (.tuple #[vI r0, vI r1]) ∧ Fit z (sepL (ob96 B0 q0 caq0_1 ccq0_2 caq0_3 ccq0_4 :: ro2 caq0_1 ccq0_2 q0.cell :: ro90 caq0_3 ccq0_4 q0.log :: L)) w := by
 unfold cells_Arena_Load at H
 refine enter Try.func66 rfl 22 rfl rfl [(0, pA B0 0), (1, vI p1)] ⟨rfl, rfl, trivial⟩ ?_
 intro j a hr
 refine sr ?_
 refine ovs [4, 5] [vI 0, vI 0] hr ⟨rfl, rfl⟩ (by kernel_rfl) ?_; clear hr a; intro a hr
 refine ln ?_
 refine wp_seq ?_
 refine sr ?_
 replace H := bd1 H; obtain ⟨r5, e6, H⟩ := H
 refine ovs [7, 8] [pA B0 0, vI p1] hr ⟨rfl, rfl⟩ (by kernel_rfl) ?_; clear hr a; intro a hr
 have hc := cells_Arena_outside_ok (H := e6) (h := h)
 refine op_call (wn rfl) rfl rfl hr (f := 65) (args := #[pA B0 0, vI p1]) (by kernel_rfl) hc ?_; clear hc h
 rintro _ w ⟨rfl, h⟩; refine ⟨_, rfl, ?_⟩
 clear hr a; intro a hr
 refine ln ?_
 by_cases c7 : r5 = true
 ·
  replace H := ifT c7 H
  refine cond_tt hr (b := r5) (c7) ?_
  refine sr ?_
  refine ovs [4, 5] [vI 0, vI 20] hr ⟨rfl, rfl⟩ (by kernel_rfl) ?_; clear hr a; intro a hr
  refine ln ?_
  refine wp_ret ?_
  refine then_ret ?_
  refine end_ret2 (v := vI 0) (v' := vI 20) rfl hr (by kernel_rfl) (by kernel_rfl) ?_
  replace H := ej3 H; obtain ⟨rfl, rfl, rfl⟩ := H
  exact ⟨ca1, cc2, ca3, cc4, rfl, h⟩
 ·
  replace H := ifF c7 H
  refine cond_ff hr (b := r5) (bF c7) ?_
  refine wp_skip ?_
  refine then_normal ?_
  refine sr ?_
  refine ovs [10, 11, 12] [pA B0 0, pA B0 0, pA B0 2] hr ⟨rfl, rfl⟩ (by kernel_rfl) ?_; clear hr a; intro a hr
  refine ld (wn rfl) hr (.slice ca1 p0.cell.length cc2) (h.cell 2 rfl) ?_; clear hr a; intro a hr
  replace H := gd H; obtain ⟨c8, H⟩ := H
  refine ov hr (vI p1) (by kernel_rfl) ?_; clear hr a; intro a hr
  refine opv (wn rfl) hr (pA (blk ca1) (p1.toNat * 1)) (ri_row (k := .i64) (E := 2) rfl (by kernel_rfl) (by kernel_rfl) (by kernel_rfl) (by kernel_rfl) (h.pick 1) c8) ?_; clear hr a; intro a hr
  refine ld (wn rfl) hr (vI (at_ p0.cell p1.toNat)) ((h.pick 1).row_cell encZ_i64_ok (f := 0) (at_ok c8) rfl) ?_; clear hr a; intro a hr
  refine ov hr (vI (at_ p0.cell p1.toNat)) (by kernel_rfl) ?_; clear hr a; intro a hr
  refine ln ?_
  refine sr ?_
  replace H := bd1 H; obtain ⟨S9, e10, H⟩ := H
  refine ovs [17, 18, 19] [pA B0 0, vI p1, vI (at_ p0.cell p1.toNat)] hr ⟨rfl, rfl⟩ (by kernel_rfl) ?_; clear hr a; intro a hr
  have hc := cells_Arena_note_ok (H := e10) (h := h)
  refine op_call (wn rfl) rfl rfl hr (f := 64) (args := #[pA B0 0, vI 0, vI p1, vI (at_ p0.cell p1.toNat), vI 0, vB true]) (by kernel_rfl) hc ?_; clear hc h
  rintro _ w ⟨caq11, ccq12, caq13, ccq14, rfl, h⟩; refine ⟨_, rfl, ?_⟩
  clear hr a; intro a hr
  refine ln ?_
  refine sr ?_
  refine ovs [21, 4, 5] [vI (at_ p0.cell p1.toNat), vI (at_ p0.cell p1.toNat), vI 0] hr ⟨rfl, rfl⟩ (by kernel_rfl) ?_; clear hr a; intro a hr
  refine ln ?_
  refine wp_ret ?_
  refine end_ret2 (v := vI (at_ p0.cell p1.toNat)) (v' := vI 0) rfl hr (by kernel_rfl) (by kernel_rfl) ?_
  replace H := ej3 H; obtain ⟨rfl, rfl, rfl⟩ := H
  exact ⟨caq11, ccq12, caq13, ccq14, rfl, h⟩

/-- (*plunder/cells.Arena).Store -/
def cells_Arena_Store (p0 : T_cells_Arena) (p1 : Int) (p2 : Int) : Option (Int × T_cells_Arena) :=
  ob1 (cells_Arena_outside p0 p1) (fun r5 => (if r5 = true then some (20, p0) else if inr_ p1 p0.cell.length then ob1 (cells_Arena_note ({ p0 with cell := p0.cell.set p1.toNat p2 }) 1 p1 p2 0 true) (fun S10 => some (0, S10)) else none))
set_option maxRecDepth 100000 in
set_option maxHeartbeats 4000000 in
theorem cells_Arena_Store_ok {z w : World} {L : List HProp} {p0 : T_cells_Arena} {p1 : Int} {p2 : Int} {B0 : Nat} {ca1 : Option Addr} {cc2 : Nat} {ca3 : Option Addr} {cc4 : Nat} {r0 : Int} {q0 : T_cells_Arena} (H : cells_Arena_Store p0 p1 p2 = some (r0, q0)) (h : Fit z (sepL (ob96 B0 p0 ca1 cc2 ca3 cc4 :: ro2 ca1 cc2 p0.cell :: ro90 ca3 cc4 p0.log :: L)) w)  :
    Calls Try.prog 21 #[pA B0 0, vI p1, vI p2] w fun e w => ∃ caq0_1 : Option Addr, ∃ ccq0_2 : Nat, ∃ caq0_3 : Option Addr, ∃ ccq0_4 : Nat, e = .returned (vI r0) ∧ Fit z (sepL (ob96 B0 q0 caq0_1 ccq0_2 caq0_3 ccq0_4 :: ro2 caq0_1 ccq0_2 q0.cell :: ro90 caq0_3 ccq0_4 q0.log :: L)) w := by
 unfold cells_Arena_Store at H
 refine enter Try.func21 rfl 21 rfl rfl [(0, pA B0 0), (1, vI p1), (2, vI p2)] ⟨rfl, rfl, rfl, trivial⟩ ?_
 intro j a hr
 refine sr ?_
 refine ov hr (vI 0) (by kernel_rfl) ?_; clear hr a; intro a hr
 refine ln ?_
 refine wp_seq ?_
 refine sr ?_
 replace H := bd1 H; obtain ⟨r5, e6, H⟩ := H
 refine ovs [7, 8] [pA B0 0, vI p1] hr ⟨rfl, rfl⟩ (by kernel_rfl) ?_; clear hr a; intro a hr
 have hc := cells_Arena_outside_ok (H := e6) (h := h)
 refine op_call (wn rfl) rfl rfl hr (f := 65) (args := #[pA B0 0, vI p1]) (by kernel_rfl) hc ?_; clear hc h
 rintro _ w ⟨rfl, h⟩; refine ⟨_, rfl, ?_⟩
 clear hr a; intro a hr
 refine ln ?_
 by_cases c7 : r5 = true
 ·
  replace H := ifT c7 H
  refine cond_tt hr (b := r5) (c7) ?_
  refine sr ?_
  refine ov hr (vI 20) (by kernel_rfl) ?_; clear hr a; intro a hr
  refine ln ?_
  refine wp_ret ?_
  refine then_ret ?_
  refine end_ret1 (v := vI 20) rfl hr (by kernel_rfl) ?_
  replace H := ej2 H; obtain ⟨rfl, rfl⟩ := H
  exact ⟨ca1, cc2, ca3, cc4, rfl, h⟩
 ·
  replace H := ifF c7 H
  refine cond_ff hr (b := r5) (bF c7) ?_
  refine wp_skip ?_
  refine then_normal ?_
  refine sr ?_
  refine ovs [10, 11, 12] [pA B0 0, pA B0 0, pA B0 2] hr ⟨rfl, rfl⟩ (by kernel_rfl) ?_; clear hr a; intro a hr
  refine ld (wn rfl) hr (.slice ca1 p0.cell.length cc2) (h.cell 2 rfl) ?_; clear hr a; intro a hr
  replace H := gd H; obtain ⟨c8, H⟩ := H
  refine ovs [14, 15] [vI p1, vI p2] hr ⟨rfl, rfl⟩ (by kernel_rfl) ?_; clear hr a; intro a hr
  refine opv (wn rfl) hr (pA (blk ca1) (p1.toNat * 1)) (ri_row (k := .i64) (E := 2) rfl (by kernel_rfl) (by kernel_rfl) (by kernel_rfl) (by kernel_rfl) (h.pick 1) c8) ?_; clear hr a; intro a hr
  replace h : Fit z (sepL (ro2 ca1 cc2 p0.cell :: ob96 B0 p0 ca1 cc2 ca3 cc4 :: ro90 ca3 cc4 p0.log :: L)) _ := h.sel 3 [1, 0, 2] (by kernel_rfl) (by kernel_rfl)
  refine op_store_row (wn rfl) rfl hr rfl (by kernel_rfl) (by kernel_rfl) (v := vI p2) rfl rfl (by kernel_rfl) encZ_i64_ok h (i := p1.toNat) (f := 0) (p := (at_ p0.cell p1.toNat)) (q := p2) (at_ok c8) (by decide) rfl ?_; clear h; intro w h
  replace h : Fit z (sepL (rowOf 2 1 encZ_i64 (.slice ca1 p0.cell.length cc2) (p0.cell.set p1.toNat p2) :: ob96 B0 p0 ca1 cc2 ca3 cc4 :: ro90 ca3 cc4 p0.log :: L)) _ := h
  refine ln ?_
  refine sr ?_
  refine ovs [17, 18, 19] [pA B0 0, vI p1, vI p2] hr ⟨rfl, rfl⟩ (by kernel_rfl) ?_; clear hr a; intro a hr
  have hn8 := h.row_n
  replace h : Fit z (sepL (ro2 ca1 cc2 (p0.cell.set p1.toNat p2) :: pts B0 (.cells #[vI p0.ledger_size, vI p0.ledger_mark, .slice ca1 ((p0.cell.set p1.toNat p2).length) cc2, .slice ca3 p0.log.length cc4, vI p0.actor, vB p0.watched] 96) :: ro90 ca3 cc4 p0.log :: L)) w := (congrArg (fun q_ : Nat => Fit z (sepL (rowOf 2 1 encZ_i64 (.slice ca1 q_ cc2) (p0.cell.set p1.toNat p2) :: pts B0 (.cells #[vI p0.ledger_size, vI p0.ledger_mark, .slice ca1 q_ cc2, .slice ca3 p0.log.length cc4, vI p0.actor, vB p0.watched] 96) :: ro90 ca3 cc4 p0.log :: L)) w) h.row_n).mp h
  replace H := bd1 H; obtain ⟨S10, e11, H⟩ := H
  replace h : Fit z (sepL (pts B0 (.cells #[vI p0.ledger_size, vI p0.ledger_mark, .slice ca1 ((p0.cell.set p1.toNat p2).length) cc2, .slice ca3 p0.log.length cc4, vI p0.actor, vB p0.watched] 96) :: ro2 ca1 cc2 (p0.cell.set p1.toNat p2) :: ro90 ca3 cc4 p0.log :: L)) _ := h.sel 3 [1, 0, 2] (by kernel_rfl) (by kernel_rfl)
  have hc := cells_Arena_note_ok (H := e11) (h := h)
  refine op_call (wn rfl) rfl rfl hr (f := 64) (args := #[pA B0 0, vI 1, vI p1, vI p2, vI 0, vB true]) (by kernel_rfl) hc ?_; clear hc h
  rintro _ w ⟨caq12, ccq13, caq14, ccq15, rfl, h⟩; refine ⟨_, rfl, ?_⟩
  clear hr a; intro a hr
  refine ln ?_
  refine sr ?_
  refine ov hr (vI 0) (by kernel_rfl) ?_; clear hr a; intro a hr
  refine ln ?_
  refine wp_ret ?_
  refine end_ret1 (v := vI 0) rfl hr (by kernel_rfl) ?_
  replace H := ej2 H; obtain ⟨rfl, rfl⟩ := H
  exact ⟨caq12, ccq13, caq14, ccq15, rfl, h⟩

/-- (*plunder/cells.Arena).CAS -/
def cells_Arena_CAS (p0 : T_cells_Arena) (p1 : Int) (p2 : Int) (p3 : Int) : Option (Bool × Int × T_cells_Arena) :=
  ob1 (cells_Arena_outside p0 p1) (fun r5 => (if r5 = true then some (false, 20, p0) else if inr_ p1 p0.cell.length then (if (at_ p0.cell p1.toNat) = p2 then ob1 (cells_Arena_note ({ p0 with cell := p0.cell.set p1.toNat p3 }) 2 p1 p2 p3 ((at_ p0.cell p1.toNat) == p2)) (fun S11 => some ((at_ p0.cell p1.toNat) == p2, 0, S11)) else ob1 (cells_Arena_note p0 2 p1 p2 p3 ((at_ p0.cell p1.toNat) == p2)) (fun S17 => some ((at_ p0.cell p1.toNat) == p2, 0, S17))) else none))
set_option maxRecDepth 100000 in
set_option maxHeartbeats 4000000 in
theorem cells_Arena_CAS_ok {z w : World} {L : List HProp} {p0 : T_cells_Arena} {p1 : Int} {p2 : Int} {p3 : Int} {B0 : Nat} {ca1 : Option Addr} {cc2 : Nat} {ca3 : Option Addr} {cc4 : Nat} {r0 : Bool} {r1 : Int} {q0 : T_cells_Arena} (H : cells_Arena_CAS p0 p1 p2 p3 = some (r0, r1, q0)) (h : Fit z (sepL (ob96 B0 p0 ca1 cc2 ca3 cc4 :: ro2 ca1 cc2 p0.cell :: ro90 ca3 cc4 p0.log :: L)) w)  :
    Calls Try.prog 67 #[pA B0 0, vI p1, vI p2, vI p3] w fun e w => ∃ caq0_1 : Option Addr, ∃ ccq0_2 : Nat, ∃ caq0_3 : Option Addr, ∃ ccq0_4 : Nat, e = .returned (.tuple #[vB r0, vI r1]) ∧ Fit z (sepL (ob96 B0 q0 caq0_1 ccq0_2 caq0_3 ccq0_4 :: ro2 caq0_1 ccq0_2 q0.cell :: ro90 caq0_3 ccq0_4 q0.log :: L)) w := by
 unfold cells_Arena_CAS at H
 refine enter Try.func67 rfl 38 rfl rfl [(0, pA B0 0), (1, vI p1), (2, vI p2), (3, vI p3)] ⟨rfl, rfl, rfl, rfl, trivial⟩ ?_
 intro j a hr
 refine sr ?_
 refine ovs [8, 9] [vB false, vI 0] hr ⟨rfl, rfl⟩ (by kernel_rfl) ?_; clear hr a; intro a hr
 refine ln ?_
 refine wp_seq ?_
 refine sr ?_
 replace H := bd1 H; obtain ⟨r5, e6, H⟩ := H
 refine ovs [11, 12] [pA B0 0, vI p1] hr ⟨rfl, rfl⟩ (by kernel_rfl) ?_; clear hr a; intro a hr
 have hc := cells_Arena_outside_ok (H := e6) (h := h)
 refine op_call (wn rfl) rfl rfl hr (f := 65) (args := #[pA B0 0, vI p1]) (by kernel_rfl) hc ?_; clear hc h
 rintro _ w ⟨rfl, h⟩; refine ⟨_, rfl, ?_⟩
 clear hr a; intro a hr
 refine ln ?_
 by_cases c7 : r5 = true
 ·
  replace H := ifT c7 H
  refine cond_tt hr (b := r5) (c7) ?_
  refine sr ?_
  refine ovs [8, 9] [vB false, vI 20] hr ⟨rfl, rfl⟩ (by kernel_rfl) ?_; clear hr a; intro a hr
  refine ln ?_
  refine wp_ret ?_
  refine then_ret ?_
  refine end_ret2 (v := vB false) (v' := vI 20) rfl hr (by kernel_rfl) (by kernel_rfl) ?_
  replace H := ej3 H; obtain ⟨rfl, rfl, rfl⟩ := H
  exact ⟨ca1, cc2, ca3, cc4, rfl, h⟩
 ·
  replace H := ifF c7 H
  refine cond_ff hr (b := r5) (bF c7) ?_
  refine wp_skip ?_
  refine then_normal ?_
  refine sr ?_
  refine ovs [14, 15, 16] [pA B0 0, pA B0 0, pA B0 2] hr ⟨rfl, rfl⟩ (by kernel_rfl) ?_; clear hr a; intro a hr
  refine ld (wn rfl) hr (.slice ca1 p0.cell.length cc2) (h.cell 2 rfl) ?_; clear hr a; intro a hr
  replace H := gd H; obtain ⟨c8, H⟩ := H
  refine ov hr (vI p1) (by kernel_rfl) ?_; clear hr a; intro a hr
  refine opv (wn rfl) hr (pA (blk ca1) (p1.toNat * 1)) (ri_row (k := .i64) (E := 2) rfl (by kernel_rfl) (by kernel_rfl) (by kernel_rfl) (by kernel_rfl) (h.pick 1) c8) ?_; clear hr a; intro a hr
  refine ld (wn rfl) hr (vI (at_ p0.cell p1.toNat)) ((h.pick 1).row_cell encZ_i64_ok (f := 0) (at_ok c8) rfl) ?_; clear hr a; intro a hr
  refine ovs [21, 22, 10] [vI p2, vB ((at_ p0.cell p1.toNat) == p2), vB ((at_ p0.cell p1.toNat) == p2)] hr ⟨rfl, rfl⟩ (by kernel_rfl) ?_; clear hr a; intro a hr
  refine ln ?_
  refine wp_seq ?_
  refine sr ?_
  refine ov hr (vB ((at_ p0.cell p1.toNat) == p2)) (by kernel_rfl) ?_; clear hr a; intro a hr
  refine ln ?_
  by_cases c9 : (at_ p0.cell p1.toNat) = p2
  ·
   replace H := ifT c9 H
   refine cond_tt hr (b := ((at_ p0.cell p1.toNat) == p2)) (beq_iff_eq.mpr c9) ?_
   refine wp_region_lit ?_
   refine ovs [24, 25, 26] [pA B0 0, pA B0 0, pA B0 2] hr ⟨rfl, rfl⟩ (by kernel_rfl) ?_; clear hr a; intro a hr
   refine ld (wn rfl) hr (.slice ca1 p0.cell.length cc2) (h.cell 2 rfl) ?_; clear hr a; intro a hr
   refine ovs [28, 29] [vI p1, vI p3] hr ⟨rfl, rfl⟩ (by kernel_rfl) ?_; clear hr a; intro a hr
   refine opv (wn rfl) hr (pA (blk ca1) (p1.toNat * 1)) (ri_row (k := .i64) (E := 2) rfl (by kernel_rfl) (by kernel_rfl) (by kernel_rfl) (by kernel_rfl) (h.pick 1) c8) ?_; clear hr a; intro a hr
   replace h : Fit z (sepL (ro2 ca1 cc2 p0.cell :: ob96 B0 p0 ca1 cc2 ca3 cc4 :: ro90 ca3 cc4 p0.log :: L)) _ := h.sel 3 [1, 0, 2] (by kernel_rfl) (by kernel_rfl)
   refine op_store_row (wn rfl) rfl hr rfl (by kernel_rfl) (by kernel_rfl) (v := vI p3) rfl rfl (by kernel_rfl) encZ_i64_ok h (i := p1.toNat) (f := 0) (p := (at_ p0.cell p1.toNat)) (q := p3) (at_ok c8) (by decide) rfl ?_; clear h; intro w h
   replace h : Fit z (sepL (rowOf 2 1 encZ_i64 (.slice ca1 p0.cell.length cc2) (p0.cell.set p1.toNat p3) :: ob96 B0 p0 ca1 cc2 ca3 cc4 :: ro90 ca3 cc4 p0.log :: L)) _ := h
   refine ln ?_
   refine sr ?_
   refine ovs [31, 32, 33, 34, 35] [pA B0 0, vI p1, vI p2, vI p3, vB ((at_ p0.cell p1.toNat) == p2)] hr ⟨rfl, rfl⟩ (by kernel_rfl) ?_; clear hr a; intro a hr
   have hn9 := h.row_n
   replace h : Fit z (sepL (ro2 ca1 cc2 (p0.cell.set p1.toNat p3) :: pts B0 (.cells #[vI p0.ledger_size, vI p0.ledger_mark, .slice ca1 ((p0.cell.set p1.toNat p3).length) cc2, .slice ca3 p0.log.length cc4, vI p0.actor, vB p0.watched] 96) :: ro90 ca3 cc4 p0.log :: L)) w := (congrArg (fun q_ : Nat => Fit z (sepL (rowOf 2 1 encZ_i64 (.slice ca1 q_ cc2) (p0.cell.set p1.toNat p3) :: pts B0 (.cells #[vI p0.ledger_size, vI p0.ledger_mark, .slice ca1 q_ cc2, .slice ca3 p0.log.length cc4, vI p0.actor, vB p0.watched] 96) :: ro90 ca3 cc4 p0.log :: L)) w) h.row_n).mp h
   replace H := bd1 H; obtain ⟨S11, e12, H⟩ := H
   replace h : Fit z (sepL (pts B0 (.cells #[vI p0.ledger_size, vI p0.ledger_mark, .slice ca1 ((p0.cell.set p1.toNat p3).length) cc2, .slice ca3 p0.log.length cc4, vI p0.actor, vB p0.watched] 96) :: ro2 ca1 cc2 (p0.cell.set p1.toNat p3) :: ro90 ca3 cc4 p0.log :: L)) _ := h.sel 3 [1, 0, 2] (by kernel_rfl) (by kernel_rfl)
   have hc := cells_Arena_note_ok (H := e12) (h := h)
   refine op_call (wn rfl) rfl rfl hr (f := 64) (args := #[pA B0 0, vI 2, vI p1, vI p2, vI p3, vB ((at_ p0.cell p1.toNat) == p2)]) (by kernel_rfl) hc ?_; clear hc h
   rintro _ w ⟨caq13, ccq14, caq15, ccq16, rfl, h⟩; refine ⟨_, rfl, ?_⟩
   clear hr a; intro a hr
   refine ln ?_
   refine sr ?_
   refine ovs [37, 8, 9] [vB ((at_ p0.cell p1.toNat) == p2), vB ((at_ p0.cell p1.toNat) == p2), vI 0] hr ⟨rfl, rfl⟩ (by kernel_rfl) ?_; clear hr a; intro a hr
   refine ln ?_
   refine wp_ret ?_
   refine end_ret2 (v := vB ((at_ p0.cell p1.toNat) == p2)) (v' := vI 0) rfl hr (by kernel_rfl) (by kernel_rfl) ?_
   replace H := ej3 H; obtain ⟨rfl, rfl, rfl⟩ := H
   exact ⟨caq13, ccq14, caq15, ccq16, rfl, h⟩
  ·
   replace H := ifF c9 H
   refine cond_ff hr (b := ((at_ p0.cell p1.toNat) == p2)) (beq_eq_false_iff_ne.mpr c9) ?_
   refine wp_skip ?_
   refine then_normal ?_
   refine sr ?_
   replace H := bd1 H; obtain ⟨S17, e18, H⟩ := H
   refine ovs [31, 32, 33, 34, 35] [pA B0 0, vI p1, vI p2, vI p3, vB ((at_ p0.cell p1.toNat) == p2)] hr ⟨rfl, rfl⟩ (by kernel_rfl) ?_; clear hr a; intro a hr
   have hc := cells_Arena_note_ok (H := e18) (h := h)
   refine op_call (wn rfl) rfl rfl hr (f := 64) (args := #[pA B0 0, vI 2, vI p1, vI p2, vI p3, vB ((at_ p0.cell p1.toNat) == p2)]) (by kernel_rfl) hc ?_; clear hc h
   rintro _ w ⟨caq19, ccq20, caq21, ccq22, rfl, h⟩; refine ⟨_, rfl, ?_⟩
   clear hr a; intro a hr
   refine ln ?_
   refine sr ?_
   refine ovs [37, 8, 9] [vB ((at_ p0.cell p1.toNat) == p2), vB ((at_ p0.cell p1.toNat) == p2), vI 0] hr ⟨rfl, rfl⟩ (by kernel_rfl) ?_; clear hr a; intro a hr
   refine ln ?_
   refine wp_ret ?_
   refine end_ret2 (v := vB ((at_ p0.cell p1.toNat) == p2)) (v' := vI 0) rfl hr (by kernel_rfl) (by kernel_rfl) ?_
   replace H := ej3 H; obtain ⟨rfl, rfl, rfl⟩ := H
   exact ⟨caq19, ccq20, caq21, ccq22, rfl, h⟩

/-- (*plunder/cells.Arena).Add -/
def cells_Arena_Add (p0 : T_cells_Arena) (p1 : Int) (p2 : Int) : Option (Int × Int × T_cells_Arena) :=
  ob1 (cells_Arena_outside p0 p1) (fun r5 => (if r5 = true then some (0, 20, p0) else if inr_ p1 p0.cell.length then if inr_ p1 (p0.cell.set p1.toNat (wi ((at_ p0.cell p1.toNat) + p2))).length then ob1 (cells_Arena_note ({ p0 with cell := p0.cell.set p1.toNat (wi ((at_ p0.cell p1.toNat) + p2)) }) 3 p1 p2 (wi ((at_ p0.cell p1.toNat) + p2)) true) (fun S11 => if inr_ p1 S11.cell.length then some ((at_ S11.cell p1.toNat), 0, S11) else none) else none else none))
set_option maxRecDepth 100000 in
set_option maxHeartbeats 4000000 in
theorem cells_Arena_Add_ok {z w : World} {L : List HProp} {p0 : T_cells_Arena} {p1 : Int} {p2 : Int} {B0 : Nat} {ca1 : Option Addr} {cc2 : Nat} {ca3 : Option Addr} {cc4 : Nat} {r0 : Int} {r1 : Int} {q0 : T_cells_Arena} (H : cells_Arena_Add p0 p1 p2 = some (r0, r1, q0)) (h : Fit z (sepL (ob96 B0 p0 ca1 cc2 ca3 cc4 :: ro2 ca1 cc2 p0.cell :: ro90 ca3 cc4 p0.log :: L)) w)  :
    Calls Try.prog 68 #[pA B0 0, vI p1, vI p2] w fun e w => ∃ caq0_1 : Option Addr, ∃ ccq0_2 : Nat, ∃ caq0_3 : Option Addr, ∃ ccq0_4 : Nat, e = .returned (.tuple #[vI r0, vI r1]) ∧ Fit z (sepL (ob96 B0 q0 caq0_1 ccq0_2 caq0_3 ccq0_4 :: ro2 caq0_1 ccq0_2 q0.cell :: ro90 caq0_3 ccq0_4 q0.log :: L)) w := by
 unfold cells_Arena_Add at H
 refine enter Try.func68 rfl 39 rfl rfl [(0, pA B0 0), (1, vI p1), (2, vI p2)] ⟨rfl, rfl, rfl, trivial⟩ ?_
 intro j a hr
 refine sr ?_
 refine ovs [6, 7] [vI 0, vI 0] hr ⟨rfl, rfl⟩ (by kernel_rfl) ?_; clear hr a; intro a hr
 refine ln ?_
 refine wp_seq ?_
 refine sr ?_
 replace H := bd1 H; obtain ⟨r5, e6, H⟩ := H
 refine ovs [8, 9] [pA B0 0, vI p1] hr ⟨rfl, rfl⟩ (by kernel_rfl) ?_; clear hr a; intro a hr
 have hc := cells_Arena_outside_ok (H := e6) (h := h)
 refine op_call (wn rfl) rfl rfl hr (f := 65) (args := #[pA B0 0, vI p1]) (by kernel_rfl) hc ?_; clear hc h
 rintro _ w ⟨rfl, h⟩; refine ⟨_, rfl, ?_⟩
 clear hr a; intro a hr
 refine ln ?_
 by_cases c7 : r5 = true
 ·
  replace H := ifT c7 H
  refine cond_tt hr (b := r5) (c7) ?_
  refine sr ?_
  refine ovs [6, 7] [vI 0, vI 20] hr ⟨rfl, rfl⟩ (by kernel_rfl) ?_; clear hr a; intro a hr
  refine ln ?_
  refine wp_ret ?_
  refine then_ret ?_
  refine end_ret2 (v := vI 0) (v' := vI 20) rfl hr (by kernel_rfl) (by kernel_rfl) ?_
  replace H := ej3 H; obtain ⟨rfl, rfl, rfl⟩ := H
  exact ⟨ca1, cc2, ca3, cc4, rfl, h⟩
 ·
  replace H := ifF c7 H
  refine cond_ff hr (b := r5) (bF c7) ?_
  refine wp_skip ?_
  refine then_normal ?_
  refine sr ?_
  refine ovs [11, 12, 13] [pA B0 0, pA B0 0, pA B0 2] hr ⟨rfl, rfl⟩ (by kernel_rfl) ?_; clear hr a; intro a hr
  refine ld (wn rfl) hr (.slice ca1 p0.cell.length cc2) (h.cell 2 rfl) ?_; clear hr a; intro a hr
  replace H := gd H; obtain ⟨c8, H⟩ := H
  refine ov hr (vI p1) (by kernel_rfl) ?_; clear hr a; intro a hr
  refine opv (wn rfl) hr (pA (blk ca1) (p1.toNat * 1)) (ri_row (k := .i64) (E := 2) rfl (by kernel_rfl) (by kernel_rfl) (by kernel_rfl) (by kernel_rfl) (h.pick 1) c8) ?_; clear hr a; intro a hr
  refine ld (wn rfl) hr (vI (at_ p0.cell p1.toNat)) ((h.pick 1).row_cell encZ_i64_ok (f := 0) (at_ok c8) rfl) ?_; clear hr a; intro a hr
  refine ovs [18, 19] [vI p2, vI (wi ((at_ p0.cell p1.toNat) + p2))] hr ⟨rfl, rfl⟩ (by kernel_rfl) ?_; clear hr a; intro a hr
  refine opv (wn rfl) hr (pA (blk ca1) (p1.toNat * 1)) (ri_row (k := .i64) (E := 2) rfl (by kernel_rfl) (by kernel_rfl) (by kernel_rfl) (by kernel_rfl) (h.pick 1) c8) ?_; clear hr a; intro a hr
  replace h : Fit z (sepL (ro2 ca1 cc2 p0.cell :: ob96 B0 p0 ca1 cc2 ca3 cc4 :: ro90 ca3 cc4 p0.log :: L)) _ := h.sel 3 [1, 0, 2] (by kernel_rfl) (by kernel_rfl)
  refine op_store_row (wn rfl) rfl hr rfl (by kernel_rfl) (by kernel_rfl) (v := vI (wi ((at_ p0.cell p1.toNat) + p2))) rfl rfl (by kernel_rfl) encZ_i64_ok h (i := p1.toNat) (f := 0) (p := (at_ p0.cell p1.toNat)) (q := (wi ((at_ p0.cell p1.toNat) + p2))) (at_ok c8) (by decide) rfl ?_; clear h; intro w h
  replace h : Fit z (sepL (rowOf 2 1 encZ_i64 (.slice ca1 p0.cell.length cc2) (p0.cell.set p1.toNat (wi ((at_ p0.cell p1.toNat) + p2))) :: ob96 B0 p0 ca1 cc2 ca3 cc4 :: ro90 ca3 cc4 p0.log :: L)) _ := h
  refine ln ?_
  refine sr ?_
  refine ovs [21, 22, 23, 24, 25, 26] [pA B0 0, vI p1, vI p2, pA B0 0, pA B0 0, pA B0 2] hr ⟨rfl, rfl⟩ (by kernel_rfl) ?_; clear hr a; intro a hr
  refine ld (wn rfl) hr (.slice ca1 p0.cell.length cc2) ((h.pick 1).cell 2 rfl) ?_; clear hr a; intro a hr
  replace H := gd H; obtain ⟨c9, H⟩ := H
  refine ov hr (vI p1) (by kernel_rfl) ?_; clear hr a; intro a hr
  refine opv (wn rfl) hr (pA (blk ca1) (p1.toNat * 1)) (ri_row (k := .i64) (E := 2) rfl (by kernel_rfl) (by kernel_rfl) (by kernel_rfl) (by kernel_rfl) h c9) ?_; clear hr a; intro a hr
  refine ld (wn rfl) hr (vI (wi ((at_ p0.cell p1.toNat) + p2))) (h.row_cell encZ_i64_ok (f := 0) (get_set ((at_okL (by simpa [inr_] using c9)))) rfl) ?_; clear hr a; intro a hr
  have hn9 := h.row_n
  replace h : Fit z (sepL (ro2 ca1 cc2 (p0.cell.set p1.toNat (wi ((at_ p0.cell p1.toNat) + p2))) :: pts B0 (.cells #[vI p0.ledger_size, vI p0.ledger_mark, .slice ca1 ((p0.cell.set p1.toNat (wi ((at_ p0.cell p1.toNat) + p2))).length) cc2, .slice ca3 p0.log.length cc4, vI p0.actor, vB p0.watched] 96) :: ro90 ca3 cc4 p0.log :: L)) w := (congrArg (fun q_ : Nat => Fit z (sepL (rowOf 2 1 encZ_i64 (.slice ca1 q_ cc2) (p0.cell.set p1.toNat (wi ((at_ p0.cell p1.toNat) + p2))) :: pts B0 (.cells #[vI p0.ledger_size, vI p0.ledger_mark, .slice ca1 q_ cc2, .slice ca3 p0.log.length cc4, vI p0.actor, vB p0.watched] 96) :: ro90 ca3 cc4 p0.log :: L)) w) h.row_n).mp h
  replace H := bd1 H; obtain ⟨S11, e12, H⟩ := H
  replace h : Fit z (sepL (pts B0 (.cells #[vI p0.ledger_size, vI p0.ledger_mark, .slice ca1 ((p0.cell.set p1.toNat (wi ((at_ p0.cell p1.toNat) + p2))).length) cc2, .slice ca3 p0.log.length cc4, vI p0.actor, vB p0.watched] 96) :: ro2 ca1 cc2 (p0.cell.set p1.toNat (wi ((at_ p0.cell p1.toNat) + p2))) :: ro90 ca3 cc4 p0.log :: L)) _ := h.sel 3 [1, 0, 2] (by kernel_rfl) (by kernel_rfl)
  have hc := cells_Arena_note_ok (H := e12) (h := h)
  refine op_call (wn rfl) rfl rfl hr (f := 64) (args := #[pA B0 0, vI 3, vI p1, vI p2, vI (wi ((at_ p0.cell p1.toNat) + p2)), vB true]) (by kernel_rfl) hc ?_; clear hc h
  rintro _ w ⟨caq13, ccq14, caq15, ccq16, rfl, h⟩; refine ⟨_, rfl, ?_⟩
  clear hr a; intro a hr
  refine ln ?_
  refine sr ?_
  refine ovs [32, 33, 34] [pA B0 0, pA B0 0, pA B0 2] hr ⟨rfl, rfl⟩ (by kernel_rfl) ?_; clear hr a; intro a hr
  refine ld (wn rfl) hr (.slice caq13 S11.cell.length ccq14) (h.cell 2 rfl) ?_; clear hr a; intro a hr
  replace H := gd H; obtain ⟨c17, H⟩ := H
  refine ov hr (vI p1) (by kernel_rfl) ?_; clear hr a; intro a hr
  refine opv (wn rfl) hr (pA (blk caq13) (p1.toNat * 1)) (ri_row (k := .i64) (E := 2) rfl (by kernel_rfl) (by kernel_rfl) (by kernel_rfl) (by kernel_rfl) (h.pick 1) c17) ?_; clear hr a; intro a hr
  refine ld (wn rfl) hr (vI (at_ S11.cell p1.toNat)) ((h.pick 1).row_cell encZ_i64_ok (f := 0) (at_ok c17) rfl) ?_; clear hr a; intro a hr
  refine ovs [6, 7] [vI (at_ S11.cell p1.toNat), vI 0] hr ⟨rfl, rfl⟩ (by kernel_rfl) ?_; clear hr a; intro a hr
  refine ln ?_
  refine wp_ret ?_
  refine end_ret2 (v := vI (at_ S11.cell p1.toNat)) (v' := vI 0) rfl hr (by kernel_rfl) (by kernel_rfl) ?_
  replace H := ej3 H; obtain ⟨rfl, rfl, rfl⟩ := H
  exact ⟨caq13, ccq14, caq15, ccq16, rfl, h⟩

/-- (*plunder/cells.ledger).refuse -/
def cells_ledger_refuse (p0 : T_cells_Arena) (p1 : Int) : Option (Int) :=
  (if p1 < (1 : Int) then some 21 else (if p1 > (wi (p0.ledger_size - p0.ledger_mark)) then some 22 else some 0))
set_option maxRecDepth 100000 in
set_option maxHeartbeats 4000000 in
theorem cells_ledger_refuse_ok {z w : World} {L : List HProp} {p0 : T_cells_Arena} {p1 : Int} {B0 : Nat} {ca1 : Option Addr} {cc2 : Nat} {ca3 : Option Addr} {cc4 : Nat} {r0 : Int} (H : cells_ledger_refuse p0 p1 = some r0) (h : Fit z (sepL (ob96 B0 p0 ca1 cc2 ca3 cc4 :: ro2 ca1 cc2 p0.cell :: ro90 ca3 cc4 p0.log :: L)) w)  :
    Calls Try.prog 62 #[pA B0 0, vI p1] w fun e w => e = .returned (vI r0) ∧ Fit z (sepL (ob96 B0 p0 ca1 cc2 ca3 cc4 :: ro2 ca1 cc2 p0.cell :: ro90 ca3 cc4 p0.log :: L)) w := by
 unfold cells_ledger_refuse at H
 refine enter Try.func62 rfl 22 rfl rfl [(0, pA B0 0), (1, vI p1)] ⟨rfl, rfl, trivial⟩ ?_
 intro j a hr
 refine sr ?_
 refine ov hr (vI 0) (by kernel_rfl) ?_; clear hr a; intro a hr
 refine ln ?_
 refine wp_seq ?_
 refine sr ?_
 refine ovs [5, 6] [vI p1, vB (decide (p1 < (1 : Int)))] hr ⟨rfl, rfl⟩ (by kernel_rfl) ?_; clear hr a; intro a hr
 refine ln ?_
 by_cases c5 : p1 < (1 : Int)
 ·
  replace H := ifT c5 H
  refine cond_tt hr (b := (decide (p1 < (1 : Int)))) (decide_eq_true c5) ?_
  refine sr ?_
  refine ov hr (vI 21) (by kernel_rfl) ?_; clear hr a; intro a hr
  refine ln ?_
  refine wp_ret ?_
  refine then_ret ?_
  refine end_ret1 (v := vI 21) rfl hr (by kernel_rfl) ?_
  replace H := ej1 H; subst H
  exact ⟨rfl, h⟩
 ·
  replace H := ifF c5 H
  refine cond_ff hr (b := (decide (p1 < (1 : Int)))) (decide_eq_false c5) ?_
  refine wp_skip ?_
  refine then_normal ?_
  refine wp_seq ?_
  refine wp_seq ?_
  refine reg_E (fun w => heldC w B0 0 ([vI p0.ledger_size]) ∧ heldC w B0 1 ([vI p0.ledger_mark]) ∧ True) [1, 5, 6, 9, 10] h (by kernel_rfl) ?_; intro w h
  change wpAnyE _ _ _ _ _ _ 15 (Array.replicate 15 false) a w
  have hgo : ∀ w w', CellsGo w w' → (heldC w B0 0 ([vI p0.ledger_size]) ∧ heldC w B0 1 ([vI p0.ledger_mark]) ∧ True) → heldC w' B0 0 ([vI p0.ledger_size]) ∧ heldC w' B0 1 ([vI p0.ledger_mark]) ∧ True := fun w w' g hD => ⟨heldC_go _ _ _ _ _ g hD.1, heldC_go _ _ _ _ _ g hD.2.1, trivial⟩
  refine ev 14 0 rfl (by kernel_rfl) (wn rfl) hr (pA B0 0) (fun w => by kernel_rfl) ?_; clear hr a; intro a hr
  refine evD hgo ⟨⟨h.cell 0 rfl, trivial⟩, ⟨h.cell 1 rfl, trivial⟩, trivial⟩ 13 1 rfl (by kernel_rfl) (wn rfl) hr (vB false) (fun w => by kernel_rfl) ?_; clear hr a; intro a hr
  refine ev 12 2 rfl (by kernel_rfl) (wn rfl) hr (vB false) (fun w => by kernel_rfl) ?_; clear hr a; intro a hr
  refine ev 11 3 rfl (by kernel_rfl) (wgt hr (c := false) rfl) hr (vI p1) (fun w => by kernel_rfl) ?_; clear hr a; intro a hr
  refine ev 10 4 rfl (by kernel_rfl) (wgt hr (c := false) rfl) hr (pA B0 0) (fun w => by kernel_rfl) ?_; clear hr a; intro a hr
  refine evD hgo ⟨⟨h.cell 0 rfl, trivial⟩, ⟨h.cell 1 rfl, trivial⟩, trivial⟩ 9 5 rfl (by kernel_rfl) (wgt hr (c := false) rfl) hr (pA B0 0) (fun w => by kernel_rfl) ?_; clear hr a; intro a hr
  refine evD hgo ⟨⟨h.cell 0 rfl, trivial⟩, ⟨h.cell 1 rfl, trivial⟩, trivial⟩ 8 6 rfl (by kernel_rfl) (wgt hr (c := false) rfl) hr (pA B0 0) (fun w => by kernel_rfl) ?_; clear hr a; intro a hr
  refine ev 7 8 rfl (by kernel_rfl) (wgt hr (c := false) rfl) hr (pA B0 0) (fun w => by kernel_rfl) ?_; clear hr a; intro a hr
  refine evD hgo ⟨⟨h.cell 0 rfl, trivial⟩, ⟨h.cell 1 rfl, trivial⟩, trivial⟩ 6 9 rfl (by kernel_rfl) (wgt hr (c := false) rfl) hr (pA B0 0) (fun w => by kernel_rfl) ?_; clear hr a; intro a hr
  refine evD hgo ⟨⟨h.cell 0 rfl, trivial⟩, ⟨h.cell 1 rfl, trivial⟩, trivial⟩ 5 10 rfl (by kernel_rfl) (wgt hr (c := false) rfl) hr (pA B0 1) (fun w => by kernel_rfl) ?_; clear hr a; intro a hr
  refine el [1, 5, 6, 9, 10] (b := B0) (off := 0) (cs := [vI p0.ledger_size]) (fun _ hk => ⟨hk, fun w hD => hD.1⟩) 4 7 rfl (by kernel_rfl) (wgt hr (c := false) rfl) hr (vI p0.ledger_size) ⟨h.cell 0 rfl, trivial⟩ (fun w hc => rl rfl (by kernel_rfl) (by kernel_rfl) hc.1) ?_; clear hr a; intro a hr
  refine el [1, 5, 6, 9, 10] (b := B0) (off := 1) (cs := [vI p0.ledger_mark]) (fun _ hk => ⟨hk, fun w hD => hD.2.1⟩) 3 11 rfl (by kernel_rfl) (wgt hr (c := false) rfl) hr (vI p0.ledger_mark) ⟨h.cell 1 rfl, trivial⟩ (fun w hc => rl rfl (by kernel_rfl) (by kernel_rfl) hc.1) ?_; clear hr a; intro a hr
  refine ev 2 12 rfl (by kernel_rfl) (wgt hr (c := false) rfl) hr (vI (wi (p0.ledger_size - p0.ledger_mark))) (fun w => by kernel_rfl) ?_; clear hr a; intro a hr
  refine ev 1 13 rfl (by kernel_rfl) (wgt hr (c := false) rfl) hr (vB (decide (p1 > (wi (p0.ledger_size - p0.ledger_mark))))) (fun w => by kernel_rfl) ?_; clear hr a; intro a hr
  refine ev 0 14 rfl (by kernel_rfl) (wn rfl) hr (vB (decide (p1 > (wi (p0.ledger_size - p0.ledger_mark))))) (fun w => by kernel_rfl) ?_; clear hr a; intro a hr
  refine e_end (by kernel_rfl) ?_
  refine then_normal ?_
  by_cases c6 : p1 > (wi (p0.ledger_size - p0.ledger_mark))
  ·
   replace H := ifT c6 H
   refine cond_tt hr (b := (decide (p1 > (wi (p0.ledger_size - p0.ledger_mark))))) (decide_eq_true c6) ?_
   refine sr ?_
   refine ov hr (vI 22) (by kernel_rfl) ?_; clear hr a; intro a hr
   refine ln ?_
   refine wp_ret ?_
   refine then_ret ?_
   refine end_ret1 (v := vI 22) rfl hr (by kernel_rfl) ?_
   replace H := ej1 H; subst H
   exact ⟨rfl, h⟩
  ·
   replace H := ifF c6 H
   refine cond_ff hr (b := (decide (p1 > (wi (p0.ledger_size - p0.ledger_mark))))) (decide_eq_false c6) ?_
   refine wp_skip ?_
   refine then_normal ?_
   refine sr ?_
   refine ov hr (vI 0) (by kernel_rfl) ?_; clear hr a; intro a hr
   refine ln ?_
   refine wp_ret ?_
   refine end_ret1 (v := vI 0) rfl hr (by kernel_rfl) ?_
   replace H := ej1 H; subst H
   exact ⟨rfl, h⟩

/-- (*plunder/cells.ledger).take -/
def cells_ledger_take (p0 : T_cells_Arena) (p1 : Int) : Option (Int × T_cells_Arena) :=
  some (p0.ledger_mark, { p0 with ledger_mark := wi (p0.ledger_mark + p1) })
set_option maxRecDepth 100000 in
set_option maxHeartbeats 4000000 in
theorem cells_ledger_take_ok {z w : World} {L : List HProp} {p0 : T_cells_Arena} {p1 : Int} {B0 : Nat} {ca1 : Option Addr} {cc2 : Nat} {ca3 : Option Addr} {cc4 : Nat} {r0 : Int} {q0 : T_cells_Arena} (H : cells_ledger_take p0 p1 = some (r0, q0)) (h : Fit z (sepL (ob96 B0 p0 ca1 cc2 ca3 cc4 :: ro2 ca1 cc2 p0.cell :: ro90 ca3 cc4 p0.log :: L)) w)  :
    Calls Try.prog 63 #[pA B0 0, vI p1] w fun e w => ∃ caq0_1 : Option Addr, ∃ ccq0_2 : Nat, ∃ caq0_3 : Option Addr, ∃ ccq0_4 : Nat, e = .returned (vI r0) ∧ Fit z (sepL (ob96 B0 q0 caq0_1 ccq0_2 caq0_3 ccq0_4 :: ro2 caq0_1 ccq0_2 q0.cell :: ro90 caq0_3 ccq0_4 q0.log :: L)) w := by
 unfold cells_ledger_take at H
 refine enter Try.func63 rfl 19 rfl rfl [(0, pA B0 0), (1, vI p1)] ⟨rfl, rfl, trivial⟩ ?_
 intro j a hr
 refine sr ?_
 refine ov hr (vI 0) (by kernel_rfl) ?_; clear hr a; intro a hr
 refine ln ?_
 refine sr ?_
 refine ovs [6, 7, 8] [pA B0 0, pA B0 0, pA B0 1] hr ⟨rfl, rfl⟩ (by kernel_rfl) ?_; clear hr a; intro a hr
 refine ld (wn rfl) hr (vI p0.ledger_mark) (h.cell 1 rfl) ?_; clear hr a; intro a hr
 refine ov hr (vI p0.ledger_mark) (by kernel_rfl) ?_; clear hr a; intro a hr
 refine ln ?_
 refine sr ?_
 refine ovs [10, 11, 12] [pA B0 0, pA B0 0, pA B0 1] hr ⟨rfl, rfl⟩ (by kernel_rfl) ?_; clear hr a; intro a hr
 refine ld (wn rfl) hr (vI p0.ledger_mark) (h.cell 1 rfl) ?_; clear hr a; intro a hr
 refine ovs [14, 15, 16, 17] [vI p1, vI (wi (p0.ledger_mark + p1)), pA B0 0, pA B0 1] hr ⟨rfl, rfl⟩ (by kernel_rfl) ?_; clear hr a; intro a hr
 refine op_store (wn rfl) rfl hr rfl (by kernel_rfl) (by kernel_rfl) (v := vI (wi (p0.ledger_mark + p1))) rfl rfl (by kernel_rfl) h (i := 1) rfl ?_; clear h; intro w h
 refine wpList_nil ?_
 replace h : Fit z (sepL (pts B0 (.cells #[vI p0.ledger_size, vI (wi (p0.ledger_mark + p1)), .slice ca1 p0.cell.length cc2, .slice ca3 p0.log.length cc4, vI p0.actor, vB p0.watched] 96) :: ro2 ca1 cc2 p0.cell :: ro90 ca3 cc4 p0.log :: L)) _ := h
 refine then_normal ?_
 refine sr ?_
 refine ovs [18, 4] [vI p0.ledger_mark, vI p0.ledger_mark] hr ⟨rfl, rfl⟩ (by kernel_rfl) ?_; clear hr a; intro a hr
 refine ln ?_
 refine wp_ret ?_
 refine end_ret1 (v := vI p0.ledger_mark) rfl hr (by kernel_rfl) ?_
 replace H := ej2 H; obtain ⟨rfl, rfl⟩ := H
 exact ⟨ca1, cc2, ca3, cc4, rfl, h⟩

/-- (*plunder/cells.Arena).Reserve -/
def cells_Arena_Reserve (p0 : T_cells_Arena) (p1 : Int) : Option (Int × Int × T_cells_Arena) :=
  ob0 (some ()) (ob1 (cells_ledger_refuse p0 p1) (fun r7 => (if r7 = (0 : Int) then ob2 (cells_ledger_take p0 p1) (fun r10 S11 => if 0 ≤ p1 ∧ (S11.cell.length + p1.toNat) * 8 ≤ 140737488355328 then ob1 (cells_Arena_note ({ S11 with cell := S11.cell ++ List.replicate p1.toNat (0 : Int) }) 4 r10 p1 0 true) (fun S20 => some (r10, 0, S20)) else none) else some (0, r7, p0))))
set_option maxRecDepth 100000 in
set_option maxHeartbeats 4000000 in
theorem cells_Arena_Reserve_ok {z w : World} {L : List HProp} {p0 : T_cells_Arena} {p1 : Int} {B0 : Nat} {ca1 : Option Addr} {cc2 : Nat} {ca3 : Option Addr} {cc4 : Nat} {r0 : Int} {r1 : Int} {q0 : T_cells_Arena} (H : cells_Arena_Reserve p0 p1 = some (r0, r1, q0)) (h : Fit z (sepL (ob96 B0 p0 ca1 cc2 ca3 cc4 :: ro2 ca1 cc2 p0.cell :: ro90 ca3 cc4 p0.log :: L)) w)  :
    Calls Try.prog 20 #[pA B0 0, vI p1] w fun e w => ∃ caq0_1 : Option Addr, ∃ ccq0_2 : Nat, ∃ caq0_3 : Option Addr, ∃ ccq0_4 : Nat, e = .returned (.tuple #[vI r0, vI r1]) ∧ Fit z (sepL (ob96 B0 q0 caq0_1 ccq0_2 caq0_3 ccq0_4 :: ro2 caq0_1 ccq0_2 q0.cell :: ro90 caq0_3 ccq0_4 q0.log :: L)) w := by
 unfold cells_Arena_Reserve at H
 refine enter Try.func20 rfl 37 rfl rfl [(0, pA B0 0), (1, vI p1)] ⟨rfl, rfl, trivial⟩ ?_
 intro j a hr
 refine sr ?_
 refine ovs [4, 5] [vI 0, vI 0] hr ⟨rfl, rfl⟩ (by kernel_rfl) ?_; clear hr a; intro a hr
 refine ln ?_
 refine sr ?_
 refine ov hr (pN) (by kernel_rfl) ?_; clear hr a; intro a hr
 refine ln ?_
 replace H := kd0 H; obtain ⟨o6, H, hK5⟩ := H
 refine cut_rule (β := Unit) (fun _ a w => () = o6 ∧ ∃ j, Rep 37 (lk [(0, pA B0 0), (1, vI p1), (6, pA B0 0)] j) a ∧ Fit z (sepL (ob96 B0 p0 ca1 cc2 ca3 cc4 :: ro2 ca1 cc2 p0.cell :: ro90 ca3 cc4 p0.log :: L)) w) ?_ ?_
 ·
  refine sr ?_
  refine ovs [9, 10] [pA B0 0, vB true] hr ⟨rfl, rfl⟩ (by kernel_rfl) ?_; clear hr a; intro a hr
  refine ln ?_
  refine cond_tt hr (b := true) rfl ?_
  refine wp_region_lit ?_
  refine ovs [11, 12, 13, 6] [pA B0 0, pA B0 0, pA B0 0, pA B0 0] hr ⟨rfl, rfl⟩ (by kernel_rfl) ?_; clear hr a; intro a hr
  refine ln ?_
  replace hr := hr.fold2 [(0, pA B0 0), (1, vI p1), (6, pA B0 0)] (by kernel_rfl); obtain ⟨j, hr⟩ := hr
  exact ⟨(), sinj H, j, hr, h⟩
 clear h hr a; rintro _ a w ⟨rfl, j, hr, h⟩
 replace H := kk0 hK5
 refine wp_seq ?_
 refine sr ?_
 replace H := bd1 H; obtain ⟨r7, e8, H⟩ := H
 refine ovs [14, 15] [pA B0 0, vI p1] hr ⟨rfl, rfl⟩ (by kernel_rfl) ?_; clear hr a; intro a hr
 have hc := cells_ledger_refuse_ok (H := e8) (h := h)
 refine op_call (wn rfl) rfl rfl hr (f := 62) (args := #[pA B0 0, vI p1]) (by kernel_rfl) hc ?_; clear hc h
 rintro _ w ⟨rfl, h⟩; refine ⟨_, rfl, ?_⟩
 clear hr a; intro a hr
 refine ov hr (vI r7) (by kernel_rfl) ?_; clear hr a; intro a hr
 refine ln ?_
 refine sr ?_
 refine ovs [17, 18] [vI r7, vB (r7 != (0 : Int))] hr ⟨rfl, rfl⟩ (by kernel_rfl) ?_; clear hr a; intro a hr
 refine ln ?_
 by_cases c9 : r7 = (0 : Int)
 ·
  replace H := ifT c9 H
  refine cond_ff hr (b := (r7 != (0 : Int))) (bne_eq_false_iff_eq.mpr c9) ?_
  refine wp_skip ?_
  refine then_normal ?_
  refine sr ?_
  replace H := bd2 H; obtain ⟨r10, S11, e12, H⟩ := H
  refine ovs [20, 21] [pA B0 0, vI p1] hr ⟨rfl, rfl⟩ (by kernel_rfl) ?_; clear hr a; intro a hr
  have hc := cells_ledger_take_ok (H := e12) (h := h)
  refine op_call (wn rfl) rfl rfl hr (f := 63) (args := #[pA B0 0, vI p1]) (by kernel_rfl) hc ?_; clear hc h
  rintro _ w ⟨caq13, ccq14, caq15, ccq16, rfl, h⟩; refine ⟨_, rfl, ?_⟩
  clear hr a; intro a hr
  refine ov hr (vI r10) (by kernel_rfl) ?_; clear hr a; intro a hr
  refine ln ?_
  refine sr ?_
  refine ovs [23, 24, 25, 26] [pA B0 0, pA B0 0, pA B0 0, pA B0 2] hr ⟨rfl, rfl⟩ (by kernel_rfl) ?_; clear hr a; intro a hr
  refine ld (wn rfl) hr (.slice caq13 S11.cell.length ccq14) (h.cell 2 rfl) ?_; clear hr a; intro a hr
  refine ov hr (vI p1) (by kernel_rfl) ?_; clear hr a; intro a hr
  replace h : Fit z (sepL (ro2 caq13 ccq14 S11.cell :: ob96 B0 S11 caq13 ccq14 caq15 ccq16 :: ro90 caq15 ccq16 S11.log :: L)) _ := h.sel 3 [1, 0, 2] (by kernel_rfl) (by kernel_rfl)
  replace H := gd H; obtain ⟨c19, H⟩ := H
  refine op_extend (kx := .i64) (n0 := S11.cell.length) (i := p1) (m := p1.toNat) (bytes := 8) (zc := #[vI 0]) (0 : Int) (wn rfl) rfl rfl hr rfl (by kernel_rfl) (by kernel_rfl) (Int.toNat_of_nonneg c19.1).symm encZ_i64_ok (E := 2) (xs := S11.cell) (by kernel_rfl) (by kernel_rfl) (by kernel_rfl) rfl h c19.2 rfl ?_; clear h hr a; intro ca17 cc18 w a h hr
  refine ovs [30, 31] [pA B0 0, pA B0 2] hr ⟨rfl, rfl⟩ (by kernel_rfl) ?_; clear hr a; intro a hr
  replace h : Fit z (sepL (ob96 B0 S11 caq13 ccq14 caq15 ccq16 :: ro2 ca17 cc18 (S11.cell ++ List.replicate p1.toNat (0 : Int)) :: ro90 caq15 ccq16 S11.log :: L)) _ := h.sel 3 [1, 0, 2] (by kernel_rfl) (by kernel_rfl)
  refine op_store (wn rfl) rfl hr rfl (by kernel_rfl) (by kernel_rfl) (v := .slice ca17 ((S11.cell ++ List.replicate p1.toNat (0 : Int)).length) cc18) rfl rfl (by kernel_rfl) h (i := 2) rfl ?_; clear h; intro w h
  refine wpList_nil ?_
  replace h : Fit z (sepL (pts B0 (.cells #[vI S11.ledger_size, vI S11.ledger_mark, .slice ca17 ((S11.cell ++ List.replicate p1.toNat (0 : Int)).length) cc18, .slice caq15 S11.log.length ccq16, vI S11.actor, vB S11.watched] 96) :: ro2 ca17 cc18 (S11.cell ++ List.replicate p1.toNat (0 : Int)) :: ro90 caq15 ccq16 S11.log :: L)) _ := h
  refine then_normal ?_
  refine sr ?_
  replace H := bd1 H; obtain ⟨S20, e21, H⟩ := H
  refine ovs [32, 33, 34] [pA B0 0, vI r10, vI p1] hr ⟨rfl, rfl⟩ (by kernel_rfl) ?_; clear hr a; intro a hr
  have hc := cells_Arena_note_ok (H := e21) (h := h)
  refine op_call (wn rfl) rfl rfl hr (f := 64) (args := #[pA B0 0, vI 4, vI r10, vI p1, vI 0, vB true]) (by kernel_rfl) hc ?_; clear hc h
  rintro _ w ⟨caq22, ccq23, caq24, ccq25, rfl, h⟩; refine ⟨_, rfl, ?_⟩
  clear hr a; intro a hr
  refine ln ?_
  refine sr ?_
  refine ovs [36, 4, 5] [vI r10, vI r10, vI 0] hr ⟨rfl, rfl⟩ (by kernel_rfl) ?_; clear hr a; intro a hr
  refine ln ?_
  refine wp_ret ?_
  refine end_ret2 (v := vI r10) (v' := vI 0) rfl hr (by kernel_rfl) (by kernel_rfl) ?_
  replace H := ej3 H; obtain ⟨rfl, rfl, rfl⟩ := H
  exact ⟨caq22, ccq23, caq24, ccq25, rfl, h⟩
 ·
  replace H := ifF c9 H
  refine cond_tt hr (b := (r7 != (0 : Int))) (bne_iff_ne.mpr c9) ?_
  refine sr ?_
  refine ovs [19, 4, 5] [vI r7, vI 0, vI r7] hr ⟨rfl, rfl⟩ (by kernel_rfl) ?_; clear hr a; intro a hr
  refine ln ?_
  refine wp_ret ?_
  refine then_ret ?_
  refine end_ret2 (v := vI 0) (v' := vI r7) rfl hr (by kernel_rfl) (by kernel_rfl) ?_
  replace H := ej3 H; obtain ⟨rfl, rfl, rfl⟩ := H
  exact ⟨ca1, cc2, ca3, cc4, rfl, h⟩

/-- (*plunder/cells.ledger).Size -/
def cells_ledger_Size (p0 : T_cells_Arena) : Option (Int) :=
  some p0.ledger_size
set_option maxRecDepth 100000 in
set_option maxHeartbeats 4000000 in
theorem cells_ledger_Size_ok {z w : World} {L : List HProp} {p0 : T_cells_Arena} {B0 : Nat} {ca1 : Option Addr} {cc2 : Nat} {ca3 : Option Addr} {cc4 : Nat} {r0 : Int} (H : cells_ledger_Size p0 = some r0) (h : Fit z (sepL (ob96 B0 p0 ca1 cc2 ca3 cc4 :: ro2 ca1 cc2 p0.cell :: ro90 ca3 cc4 p0.log :: L)) w)  :
    Calls Try.prog 81 #[pA B0 0] w fun e w => e = .returned (vI r0) ∧ Fit z (sepL (ob96 B0 p0 ca1 cc2 ca3 cc4 :: ro2 ca1 cc2 p0.cell :: ro90 ca3 cc4 p0.log :: L)) w := by
 unfold cells_ledger_Size at H
 refine enter Try.func81 rfl 9 rfl rfl [(0, pA B0 0)] ⟨rfl, trivial⟩ ?_
 intro j a hr
 refine sr ?_
 refine ov hr (vI 0) (by kernel_rfl) ?_; clear hr a; intro a hr
 refine ln ?_
 refine wp_seq ?_
 refine sr ?_
 refine ovs [3, 4] [pA B0 0, vB false] hr ⟨rfl, rfl⟩ (by kernel_rfl) ?_; clear hr a; intro a hr
 refine ln ?_
 refine cond_ff hr (b := false) rfl ?_
 refine wp_skip ?_
 refine then_normal ?_
 refine sr ?_
 refine ovs [5, 6, 7] [pA B0 0, pA B0 0, pA B0 0] hr ⟨rfl, rfl⟩ (by kernel_rfl) ?_; clear hr a; intro a hr
 refine ld (wn rfl) hr (vI p0.ledger_size) (h.cell 0 rfl) ?_; clear hr a; intro a hr
 refine ov hr (vI p0.ledger_size) (by kernel_rfl) ?_; clear hr a; intro a hr
 refine ln ?_
 refine wp_ret ?_
 refine end_ret1 (v := vI p0.ledger_size) rfl hr (by kernel_rfl) ?_
 replace H := ej1 H; subst H
 exact ⟨rfl, h⟩

/-- (*plunder/cells.Arena).Size -/
def cells_Arena_Size (p0 : T_cells_Arena) : Option (Int) :=
  ob1 (cells_ledger_Size p0) (fun r5 => some r5)
set_option maxRecDepth 100000 in
set_option maxHeartbeats 4000000 in
theorem cells_Arena_Size_ok {z w : World} {L : List HProp} {p0 : T_cells_Arena} {B0 : Nat} {ca1 : Option Addr} {cc2 : Nat} {ca3 : Option Addr} {cc4 : Nat} {r0 : Int} (H : cells_Arena_Size p0 = some r0) (h : Fit z (sepL (ob96 B0 p0 ca1 cc2 ca3 cc4 :: ro2 ca1 cc2 p0.cell :: ro90 ca3 cc4 p0.log :: L)) w)  :
    Calls Try.prog 97 #[pA B0 0] w fun e w => e = .returned (vI r0) ∧ Fit z (sepL (ob96 B0 p0 ca1 cc2 ca3 cc4 :: ro2 ca1 cc2 p0.cell :: ro90 ca3 cc4 p0.log :: L)) w := by
 unfold cells_Arena_Size at H
 refine enter Try.func97 rfl 9 rfl rfl [(0, pA B0 0)] ⟨rfl, trivial⟩ ?_
 intro j a hr
 refine sr ?_
 refine ov hr (vI 0) (by kernel_rfl) ?_; clear hr a; intro a hr
 refine ln ?_
 refine wp_seq ?_
 refine sr ?_
 refine ovs [3, 4] [pA B0 0, vB false] hr ⟨rfl, rfl⟩ (by kernel_rfl) ?_; clear hr a; intro a hr
 refine ln ?_
 refine cond_ff hr (b := false) rfl ?_
 refine wp_skip ?_
 refine then_normal ?_
 refine sr ?_
 replace H := bd1 H; obtain ⟨r5, e6, H⟩ := H
 refine ovs [5, 6, 7] [pA B0 0, pA B0 0, pA B0 0] hr ⟨rfl, rfl⟩ (by kernel_rfl) ?_; clear hr a; intro a hr
 have hc := cells_ledger_Size_ok (H := e6) (h := h)
 refine op_call (wn rfl) rfl rfl hr (f := 81) (args := #[pA B0 0]) (by kernel_rfl) hc ?_; clear hc h
 rintro _ w ⟨rfl, h⟩; refine ⟨_, rfl, ?_⟩
 clear hr a; intro a hr
 refine ov hr (vI r5) (by kernel_rfl) ?_; clear hr a; intro a hr
 refine ln ?_
 refine wp_ret ?_
 refine end_ret1 (v := vI r5) rfl hr (by kernel_rfl) ?_
 replace H := ej1 H; subst H
 exact ⟨rfl, h⟩

/-- (*plunder/cells.ledger).Mark -/
def cells_ledger_Mark (p0 : T_cells_Arena) : Option (Int) :=
  some p0.ledger_mark
set_option maxRecDepth 100000 in
set_option maxHeartbeats 4000000 in
theorem cells_ledger_Mark_ok {z w : World} {L : List HProp} {p0 : T_cells_Arena} {B0 : Nat} {ca1 : Option Addr} {cc2 : Nat} {ca3 : Option Addr} {cc4 : Nat} {r0 : Int} (H : cells_ledger_Mark p0 = some r0) (h : Fit z (sepL (ob96 B0 p0 ca1 cc2 ca3 cc4 :: ro2 ca1 cc2 p0.cell :: ro90 ca3 cc4 p0.log :: L)) w)  :
    Calls Try.prog 84 #[pA B0 0] w fun e w => e = .returned (vI r0) ∧ Fit z (sepL (ob96 B0 p0 ca1 cc2 ca3 cc4 :: ro2 ca1 cc2 p0.cell :: ro90 ca3 cc4 p0.log :: L)) w := by
 unfold cells_ledger_Mark at H
 refine enter Try.func84 rfl 9 rfl rfl [(0, pA B0 0)] ⟨rfl, trivial⟩ ?_
 intro j a hr
 refine sr ?_
 refine ov hr (vI 0) (by kernel_rfl) ?_; clear hr a; intro a hr
 refine ln ?_
 refine wp_seq ?_
 refine sr ?_
 refine ovs [3, 4] [pA B0 0, vB false] hr ⟨rfl, rfl⟩ (by kernel_rfl) ?_; clear hr a; intro a hr
 refine ln ?_
 refine cond_ff hr (b := false) rfl ?_
 refine wp_skip ?_
 refine then_normal ?_
 refine sr ?_
 refine ovs [5, 6, 7] [pA B0 0, pA B0 0, pA B0 1] hr ⟨rfl, rfl⟩ (by kernel_rfl) ?_; clear hr a; intro a hr
 refine ld (wn rfl) hr (vI p0.ledger_mark) (h.cell 1 rfl) ?_; clear hr a; intro a hr
 refine ov hr (vI p0.ledger_mark) (by kernel_rfl) ?_; clear hr a; intro a hr
 refine ln ?_
 refine wp_ret ?_
 refine end_ret1 (v := vI p0.ledger_mark) rfl hr (by kernel_rfl) ?_
 replace H := ej1 H; subst H
 exact ⟨rfl, h⟩

/-- (*plunder/cells.Arena).Mark -/
def cells_Arena_Mark (p0 : T_cells_Arena) : Option (Int) :=
  ob1 (cells_ledger_Mark p0) (fun r5 => some r5)
set_option maxRecDepth 100000 in
set_option maxHeartbeats 4000000 in
theorem cells_Arena_Mark_ok {z w : World} {L : List HProp} {p0 : T_cells_Arena} {B0 : Nat} {ca1 : Option Addr} {cc2 : Nat} {ca3 : Option Addr} {cc4 : Nat} {r0 : Int} (H : cells_Arena_Mark p0 = some r0) (h : Fit z (sepL (ob96 B0 p0 ca1 cc2 ca3 cc4 :: ro2 ca1 cc2 p0.cell :: ro90 ca3 cc4 p0.log :: L)) w)  :
    Calls Try.prog 98 #[pA B0 0] w fun e w => e = .returned (vI r0) ∧ Fit z (sepL (ob96 B0 p0 ca1 cc2 ca3 cc4 :: ro2 ca1 cc2 p0.cell :: ro90 ca3 cc4 p0.log :: L)) w := by
 unfold cells_Arena_Mark at H
 refine enter Try.func98 rfl 9 rfl rfl [(0, pA B0 0)] ⟨rfl, trivial⟩ ?_
 intro j a hr
 refine sr ?_
 refine ov hr (vI 0) (by kernel_rfl) ?_; clear hr a; intro a hr
 refine ln ?_
 refine wp_seq ?_
 refine sr ?_
 refine ovs [3, 4] [pA B0 0, vB false] hr ⟨rfl, rfl⟩ (by kernel_rfl) ?_; clear hr a; intro a hr
 refine ln ?_
 refine cond_ff hr (b := false) rfl ?_
 refine wp_skip ?_
 refine then_normal ?_
 refine sr ?_
 replace H := bd1 H; obtain ⟨r5, e6, H⟩ := H
 refine ovs [5, 6, 7] [pA B0 0, pA B0 0, pA B0 0] hr ⟨rfl, rfl⟩ (by kernel_rfl) ?_; clear hr a; intro a hr
 have hc := cells_ledger_Mark_ok (H := e6) (h := h)
 refine op_call (wn rfl) rfl rfl hr (f := 84) (args := #[pA B0 0]) (by kernel_rfl) hc ?_; clear hc h
 rintro _ w ⟨rfl, h⟩; refine ⟨_, rfl, ?_⟩
 clear hr a; intro a hr
 refine ov hr (vI r5) (by kernel_rfl) ?_; clear hr a; intro a hr
 refine ln ?_
 refine wp_ret ?_
 refine end_ret1 (v := vI r5) rfl hr (by kernel_rfl) ?_
 replace H := ej1 H; subst H
 exact ⟨rfl, h⟩

/-- (*plunder/cells.Arena).Cells -/
def cells_Arena_Cells (p0 : T_cells_Arena) : Option ((List Int)) :=
  if 0 ≤ ((p0.cell.length : Nat) : Int) ∧ ((p0.cell.length : Nat) : Int) * 8 ≤ 140737488355328 then if p0.cell.length = (List.replicate p0.cell.length (0 : Int)).length then some p0.cell else none else none
set_option maxRecDepth 100000 in
set_option maxHeartbeats 4000000 in
theorem cells_Arena_Cells_ok {z w : World} {L : List HProp} {p0 : T_cells_Arena} {B0 : Nat} {ca1 : Option Addr} {cc2 : Nat} {ca3 : Option Addr} {cc4 : Nat} {r0 : List Int} (H : cells_Arena_Cells p0 = some r0) (h : Fit z (sepL (ob96 B0 p0 ca1 cc2 ca3 cc4 :: ro2 ca1 cc2 p0.cell :: ro90 ca3 cc4 p0.log :: L)) w)  :
    Calls Try.prog 24 #[pA B0 0] w fun e w => ∃ car0_1 : Option Addr, e = .returned (.slice car0_1 r0.length r0.length) ∧ Fit z (sepL (ob96 B0 p0 ca1 cc2 ca3 cc4 :: ro2 ca1 cc2 p0.cell :: ro90 ca3 cc4 p0.log :: ro2 car0_1 r0.length r0 :: L)) w := by
 unfold cells_Arena_Cells at H
 refine enter Try.func24 rfl 19 rfl rfl [(0, pA B0 0)] ⟨rfl, trivial⟩ ?_
 intro j a hr
 refine sr ?_
 refine ov hr (.slice none 0 0) (by kernel_rfl) ?_; clear hr a; intro a hr
 refine ln ?_
 refine wp_seq ?_
 refine sr ?_
 refine ovs [4, 5] [pA B0 0, vB false] hr ⟨rfl, rfl⟩ (by kernel_rfl) ?_; clear hr a; intro a hr
 refine ln ?_
 refine cond_ff hr (b := false) rfl ?_
 refine wp_skip ?_
 refine then_normal ?_
 refine sr ?_
 refine ovs [6, 7, 8] [pA B0 0, pA B0 0, pA B0 2] hr ⟨rfl, rfl⟩ (by kernel_rfl) ?_; clear hr a; intro a hr
 refine ld (wn rfl) hr (.slice ca1 p0.cell.length cc2) (h.cell 2 rfl) ?_; clear hr a; intro a hr
 replace H := gd H; obtain ⟨c5, H⟩ := H
 refine ov hr (vI ((p0.cell.length : Nat) : Int)) (by kernel_rfl) ?_; clear hr a; intro a hr
 refine op_make_row (i := ((p0.cell.length : Nat) : Int)) (bytes := 8) (zc := #[vI 0]) (0 : Int) (wn rfl) rfl rfl hr rfl (by kernel_rfl) (by kernel_rfl) c5 encZ_i64_ok (E := 2) (by kernel_rfl) (by kernel_rfl) rfl rfl h ?_; clear h hr a; intro ca6 w a h hr
 refine ov hr (.slice ca6 ((List.replicate p0.cell.length (0 : Int)).length) p0.cell.length) (by kernel_rfl) ?_; clear hr a; intro a hr
 refine wpList_nil ?_
 replace h : Fit z (sepL (ro2 ca6 p0.cell.length (List.replicate p0.cell.length (0 : Int)) :: ob96 B0 p0 ca1 cc2 ca3 cc4 :: ro2 ca1 cc2 p0.cell :: ro90 ca3 cc4 p0.log :: L)) _ := h
 refine then_normal ?_
 refine sr ?_
 refine ovs [12, 13, 14, 15] [.slice ca6 ((List.replicate p0.cell.length (0 : Int)).length) p0.cell.length, pA B0 0, pA B0 0, pA B0 2] hr ⟨rfl, rfl⟩ (by kernel_rfl) ?_; clear hr a; intro a hr
 refine ld (wn rfl) hr (.slice ca1 p0.cell.length cc2) ((h.pick 1).cell 2 rfl) ?_; clear hr a; intro a hr
 replace H := gd H; obtain ⟨c7, H⟩ := H
 replace h : Fit z (sepL (ro2 ca6 p0.cell.length (List.replicate p0.cell.length (0 : Int)) :: ro2 ca1 cc2 p0.cell :: ob96 B0 p0 ca1 cc2 ca3 cc4 :: ro90 ca3 cc4 p0.log :: L)) _ := h.sel 4 [0, 2, 1, 3] (by kernel_rfl) (by kernel_rfl)
 refine op_copy_row (wn rfl) rfl rfl hr rfl (by kernel_rfl) (by kernel_rfl) encZ_i64_ok (E := 2) (by kernel_rfl) (by kernel_rfl) c7 h ?_; clear h hr a; intro w a h hr
 refine wpList_nil ?_
 replace h : Fit z (sepL (rowOf 2 1 encZ_i64 (.slice ca6 ((List.replicate p0.cell.length (0 : Int)).length) p0.cell.length) p0.cell :: ro2 ca1 cc2 p0.cell :: ob96 B0 p0 ca1 cc2 ca3 cc4 :: ro90 ca3 cc4 p0.log :: L)) _ := h
 refine then_normal ?_
 refine sr ?_
 refine ovs [18, 2] [.slice ca6 ((List.replicate p0.cell.length (0 : Int)).length) p0.cell.length, .slice ca6 ((List.replicate p0.cell.length (0 : Int)).length) p0.cell.length] hr ⟨rfl, rfl⟩ (by kernel_rfl) ?_; clear hr a; intro a hr
 refine ln ?_
 refine wp_ret ?_
 refine end_ret1 (v := .slice ca6 ((List.replicate p0.cell.length (0 : Int)).length) p0.cell.length) rfl hr (by kernel_rfl) ?_
 have hn7 := h.row_n
 replace h : Fit z (sepL (ro2 ca6 p0.cell.length p0.cell :: ro2 ca1 cc2 p0.cell :: ob96 B0 p0 ca1 cc2 ca3 cc4 :: ro90 ca3 cc4 p0.log :: L)) w := (congrArg (fun q_ : Nat => Fit z (sepL (rowOf 2 1 encZ_i64 (.slice ca6 q_ p0.cell.length) p0.cell :: ro2 ca1 cc2 p0.cell :: ob96 B0 p0 ca1 cc2 ca3 cc4 :: ro90 ca3 cc4 p0.log :: L)) w) h.row_n).mp h
 replace h : Fit z (sepL (ob96 B0 p0 ca1 cc2 ca3 cc4 :: ro2 ca1 cc2 p0.cell :: ro90 ca3 cc4 p0.log :: ro2 ca6 p0.cell.length p0.cell :: L)) _ := h.sel 4 [2, 1, 3, 0] (by kernel_rfl) (by kernel_rfl)
 replace H := ej1 H; subst H
 exact ⟨ca6, (by simp only [hn7]), h⟩

/-- (*plunder/cells.Arena).Log -/
def cells_Arena_Log (p0 : T_cells_Arena) : Option ((List T_api_Access)) :=
  if 0 ≤ ((p0.log.length : Nat) : Int) ∧ ((p0.log.length : Nat) : Int) * 48 ≤ 140737488355328 then if p0.log.length = (List.replicate p0.log.length (⟨0, 0, 0, 0, 0, false⟩ : T_api_Access)).length then some p0.log else none else none
set_option maxRecDepth 100000 in
set_option maxHeartbeats 4000000 in
theorem cells_Arena_Log_ok {z w : World} {L : List HProp} {p0 : T_cells_Arena} {B0 : Nat} {ca1 : Option Addr} {cc2 : Nat} {ca3 : Option Addr} {cc4 : Nat} {r0 : List T_api_Access} (H : cells_Arena_Log p0 = some r0) (h : Fit z (sepL (ob96 B0 p0 ca1 cc2 ca3 cc4 :: ro2 ca1 cc2 p0.cell :: ro90 ca3 cc4 p0.log :: L)) w)  :
    Calls Try.prog 70 #[pA B0 0] w fun e w => ∃ car0_1 : Option Addr, e = .returned (.slice car0_1 r0.length r0.length) ∧ Fit z (sepL (ob96 B0 p0 ca1 cc2 ca3 cc4 :: ro2 ca1 cc2 p0.cell :: ro90 ca3 cc4 p0.log :: ro90 car0_1 r0.length r0 :: L)) w := by
 unfold cells_Arena_Log at H
 refine enter Try.func70 rfl 19 rfl rfl [(0, pA B0 0)] ⟨rfl, trivial⟩ ?_
 intro j a hr
 refine sr ?_
 refine ov hr (.slice none 0 0) (by kernel_rfl) ?_; clear hr a; intro a hr
 refine ln ?_
 refine wp_seq ?_
 refine sr ?_
 refine ovs [4, 5] [pA B0 0, vB false] hr ⟨rfl, rfl⟩ (by kernel_rfl) ?_; clear hr a; intro a hr
 refine ln ?_
 refine cond_ff hr (b := false) rfl ?_
 refine wp_skip ?_
 refine then_normal ?_
 refine sr ?_
 refine ovs [6, 7, 8] [pA B0 0, pA B0 0, pA B0 3] hr ⟨rfl, rfl⟩ (by kernel_rfl) ?_; clear hr a; intro a hr
 refine ld (wn rfl) hr (.slice ca3 p0.log.length cc4) (h.cell 3 rfl) ?_; clear hr a; intro a hr
 replace H := gd H; obtain ⟨c5, H⟩ := H
 refine ov hr (vI ((p0.log.length : Nat) : Int)) (by kernel_rfl) ?_; clear hr a; intro a hr
 refine op_make_row (i := ((p0.log.length : Nat) : Int)) (bytes := 48) (zc := #[vI 0, vI 0, vI 0, vI 0, vI 0, vB false]) (⟨0, 0, 0, 0, 0, false⟩ : T_api_Access) (wn rfl) rfl rfl hr rfl (by kernel_rfl) (by kernel_rfl) c5 enc_T_api_Access_ok (E := 90) (by kernel_rfl) (by kernel_rfl) rfl rfl h ?_; clear h hr a; intro ca6 w a h hr
 refine ov hr (.slice ca6 ((List.replicate p0.log.length (⟨0, 0, 0, 0, 0, false⟩ : T_api_Access)).length) p0.log.length) (by kernel_rfl) ?_; clear hr a; intro a hr
 refine wpList_nil ?_
 replace h : Fit z (sepL (ro90 ca6 p0.log.length (List.replicate p0.log.length (⟨0, 0, 0, 0, 0, false⟩ : T_api_Access)) :: ob96 B0 p0 ca1 cc2 ca3 cc4 :: ro2 ca1 cc2 p0.cell :: ro90 ca3 cc4 p0.log :: L)) _ := h
 refine then_normal ?_
 refine sr ?_
 refine ovs [12, 13, 14, 15] [.slice ca6 ((List.replicate p0.log.length (⟨0, 0, 0, 0, 0, false⟩ : T_api_Access)).length) p0.log.length, pA B0 0, pA B0 0, pA B0 3] hr ⟨rfl, rfl⟩ (by kernel_rfl) ?_; clear hr a; intro a hr
 refine ld (wn rfl) hr (.slice ca3 p0.log.length cc4) ((h.pick 1).cell 3 rfl) ?_; clear hr a; intro a hr
 replace H := gd H; obtain ⟨c7, H⟩ := H
 replace h : Fit z (sepL (ro90 ca6 p0.log.length (List.replicate p0.log.length (⟨0, 0, 0, 0, 0, false⟩ : T_api_Access)) :: ro90 ca3 cc4 p0.log :: ob96 B0 p0 ca1 cc2 ca3 cc4 :: ro2 ca1 cc2 p0.cell :: L)) _ := h.sel 4 [0, 3, 1, 2] (by kernel_rfl) (by kernel_rfl)
 refine op_copy_row (wn rfl) rfl rfl hr rfl (by kernel_rfl) (by kernel_rfl) enc_T_api_Access_ok (E := 90) (by kernel_rfl) (by kernel_rfl) c7 h ?_; clear h hr a; intro w a h hr
 refine wpList_nil ?_
 replace h : Fit z (sepL (rowOf 90 6 enc_T_api_Access (.slice ca6 ((List.replicate p0.log.length (⟨0, 0, 0, 0, 0, false⟩ : T_api_Access)).length) p0.log.length) p0.log :: ro90 ca3 cc4 p0.log :: ob96 B0 p0 ca1 cc2 ca3 cc4 :: ro2 ca1 cc2 p0.cell :: L)) _ := h
 refine then_normal ?_
 refine sr ?_
 refine ovs [18, 2] [.slice ca6 ((List.replicate p0.log.length (⟨0, 0, 0, 0, 0, false⟩ : T_api_Access)).length) p0.log.length, .slice ca6 ((List.replicate p0.log.length (⟨0, 0, 0, 0, 0, false⟩ : T_api_Access)).length) p0.log.length] hr ⟨rfl, rfl⟩ (by kernel_rfl) ?_; clear hr a; intro a hr
 refine ln ?_
 refine wp_ret ?_
 refine end_ret1 (v := .slice ca6 ((List.replicate p0.log.length (⟨0, 0, 0, 0, 0, false⟩ : T_api_Access)).length) p0.log.length) rfl hr (by kernel_rfl) ?_
 have hn7 := h.row_n
 replace h : Fit z (sepL (ro90 ca6 p0.log.length p0.log :: ro90 ca3 cc4 p0.log :: ob96 B0 p0 ca1 cc2 ca3 cc4 :: ro2 ca1 cc2 p0.cell :: L)) w := (congrArg (fun q_ : Nat => Fit z (sepL (rowOf 90 6 enc_T_api_Access (.slice ca6 q_ p0.log.length) p0.log :: ro90 ca3 cc4 p0.log :: ob96 B0 p0 ca1 cc2 ca3 cc4 :: ro2 ca1 cc2 p0.cell :: L)) w) h.row_n).mp h
 replace h : Fit z (sepL (ob96 B0 p0 ca1 cc2 ca3 cc4 :: ro2 ca1 cc2 p0.cell :: ro90 ca3 cc4 p0.log :: ro90 ca6 p0.log.length p0.log :: L)) _ := h.sel 4 [2, 3, 1, 0] (by kernel_rfl) (by kernel_rfl)
 replace H := ej1 H; subst H
 exact ⟨ca6, (by simp only [hn7]), h⟩


end Go.Proofs.Ytacgigkonoegiaa.Mo
